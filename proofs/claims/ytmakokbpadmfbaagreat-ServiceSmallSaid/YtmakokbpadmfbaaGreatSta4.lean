/-
  In one text: Sta3, Nl2, Sta4.
-/
import Derived.Test.YtmakokbpadmfbaaGreatSta2
import Derived.Test.YtmakokbpadmfbaaGreatSta1
/-
  stats: chances, summed, Chance, Upper, Lower.
-/
namespace Go.Proofs.YtmakokbpadmfbaaGreat
open Go.RowKit Eng
set_option linter.unusedVariables false
set_option linter.unusedSimpArgs false
set_option maxHeartbeats 8000000
attribute [local irreducible] SC SQ J Qt Calls Iterates LSub FSub
attribute [local irreducible] IteratesW
set_option exponentiation.threshold 600
theorem Ext.near {w0 w : World} {hot : Nat → Prop} {ad : Addr} {cs : List Value} (h : Ext w0 ad cs) (hn : Near w0.heap.size hot w0 w) (hc : ¬ hot ad.block) : Ext w ad cs :=
  ⟨Nat.lt_of_lt_of_le h.lt hn.size, fun j u hu => (hn.cell (by rw [block_add]; exact h.lt) (by rw [block_add]; exact hc)).trans (h.cell j u hu)⟩
theorem SL.near {w0 w : World} {hot : Nat → Prop} {A : Option Addr} {c : Nat} {l : List Int} (h : SL w0 A c l) (hn : Near w0.heap.size hot w0 w) (hc : ∀ ad, A = some ad → ¬ hot ad.block) : SL w A c l :=
  ⟨fun i x hx => by
    obtain ⟨ad, e, hE⟩ := h.rs i x hx
    exact ⟨ad, e, Ext.near hE hn (by rw [block_add]; exact hc ad e)⟩, h.nil, h.le⟩
section
variable {C : Cx} {F : Fr} {L : List HA} {K : List KI}
attribute [local semireducible] SC J
/-- A new beginning, in which a part of the call's own memory may still be written. -/
theorem sc_nowk {c : Code} (L1 : List HA) (hsub : LSub L1 L) (h : ∀ w1, St C.w0 C.hot L w1 → SC ⟨C.P, C.tab, C.ok, C.fns, C.fok, C.fn, C.R, C.rs, C.hrs, C.Qr, w1, C.n, foots L1, C.rd, C.ds⟩ c K F L1) : SC C c K F L := fun a w hf hs => by
  have h1 := h w hs a w hf (hs.sub hsub).round
  have e : ∀ (hot : Nat → Prop) K, kpost (⟨C.P, C.tab, C.ok, C.fns, C.fok, C.fn, C.R, C.rs, C.hrs, C.Qr, w, C.n, hot, C.rd, C.ds⟩ : Cx) K = kpost C K := by
    intro hot K
    induction K with
    | nil => rfl
    | cons x K ih =>
      cases x with
      | seq c => simp only [kpost, ih]
      | blk id => simp only [kpost, ih]
      | loop J => simp only [kpost, ih]
      | fin J => rfl
  rw [e] at h1
  exact h1
end
theorem chances_c (n p : Nat) (w : World) :
    Calls Tryz.prog 86 #[.int .i64 n, .int .i64 p] w fun e w' => ∃ x : Nat × Nat, True ∧ e = .returned (.func (.func 103) #[] #[.pointer (some ⟨x.1, 0, none⟩), .pointer (some ⟨x.2, 0, none⟩)]) ∧ St w Cold [.cells x.1 3 [.int .i64 p], .cells x.2 3 [.int .i64 n]] w' := by
  refine eng_start (n := 6) (args := [.int .i64 n, .int .i64 p]) tab tab_ok fns fns_ok [.tmp 4] Tryz.func86 rfl rfl rfl rfl ?_
  repeat' (first | (refine gJ ?_; first | refine js rfl rfl rfl rfl ?_ | (refine gF ?_; (refine j_box rfl rfl rfl rfl rfl ?_; intro b)) | (refine j_qe rfl rfl rfl ?_; refine ⟨_, q_makeFunc rfl rfl, ?_⟩)) | (refine gSC ?_; first | refine sc_mv rfl ?_ | refine sc_q rfl ?_ | refine sc_region ?_) | (refine gSQ ?_; first | refine sq_go rfl ?_ | refine sq_ende (by first | exact .inl rfl | exact .inr rfl) rfl rfl ⟨_, (RVs.cons (RV.tmp rfl) (RVs.nil)), ?_⟩) | refine j_nil ?_)
  rename_i b1
  intro w' hS
  exact ⟨(b, b1), trivial, rfl, hS.sub (by repeat (first | exact LSub.nil | refine LSub.cons (by repeat (first | exact Rem.here | apply Rem.there)) ?_))⟩
abbrev sumS (first last : Nat) (s : Nat) (x : Nat × Nat) : Nat × Option Code := (s + (if first ≤ x.1 then x.2 else 0), if x.1 = last then some (.exit 0) else none)
theorem sum_runs (p n first last : Nat) (hl : last ≤ n) : ∀ d j, j + d = last → runsJ (sumS first last) (part p (10000 - p) n first j) ((chs p n).drop j) = (part p (10000 - p) n first (last + 1), some (.exit 0))
  | 0, j, h => by
    have : j = last := by omega
    subst this
    rw [chs_drop p n j hl]
    simp [runsJ, sumS, part]
  | d + 1, j, h => by
    rw [chs_drop p n j (by omega)]
    have := sum_runs p n first last hl d (j + 1) (by omega)
    rw [show part p (10000 - p) n first (j + 1) = (part p (10000 - p) n first j + if first ≤ j then bn p (10000 - p) n j else 0) from rfl] at this
    simp only [runsJ]
    rw [show sumS first last (part p (10000 - p) n first j) (j, bn p (10000 - p) n j) = ((part p (10000 - p) n first j + if first ≤ j then bn p (10000 - p) n j else 0), none) by simp only [sumS]; rw [if_neg (by omega : ¬ j = last)]]
    exact this
theorem chs_at {p n j : Nat} {x : Nat × Nat} (h : (chs p n)[j]? = some x) : j ≤ n ∧ x = (j, bn p (10000 - p) n j) := by
  have hj : j ≤ n := by
    have := (List.getElem?_eq_some_iff.1 h).1
    simp [chs] at this
    omega
  rw [chs_get p n j hj] at h
  injection h with h
  exact ⟨hj, h.symm⟩
theorem sum_fold (p n first last : Nat) : ∀ j, j ≤ n + 1 → ((chs p n).take j).foldl (fun s y => (sumS first last s y).1) 0 = part p (10000 - p) n first j
  | 0, _ => rfl
  | j + 1, h => by
    rw [List.take_add_one, chs_get p n j (by omega), List.foldl_append, sum_fold p n first last j (by omega)]
    rfl
theorem sep_foots {w0 w : World} {hot : Nat → Prop} {L L1 L' : List HA} {x : HA} {b : Nat} (hs : St w0 hot L w) (hr : Rem L x L') (hx : x.foot b) (hsub : LSub L1 L') : ¬ foots L1 b := by
  rintro ⟨y, hy, hyb⟩
  have h1 := (hs.perm hr.perm).sep
  rw [List.pairwise_cons] at h1
  unfold LSub at hsub
  obtain ⟨M, hM⟩ := hsub
  exact h1.1 y (hM.symm.mem_iff.1 (List.mem_append_left _ hy)) b hx hyb
theorem cap_sum {p n f k : Nat} (hp : p ≤ 10000) (hn : n ≤ 500) : part p (10000 - p) n f k ≤ 10000 ^ 500 := by
  refine Nat.le_trans (part_le _ _ _ _ _) ?_
  rw [show p + (10000 - p) = 10000 by omega]
  exact Nat.pow_le_pow_right (by omega) hn
set_option maxHeartbeats 4000000 in
theorem summed_c (n k p first last : Nat) (w : World) (hk : k ≤ n) (hn : n ≤ 500) (hp : p ≤ 10000) (hf : first ≤ n) (hl : last ≤ n) :
    Calls Tryz.prog 60 #[.int .i64 n, .int .i64 k, .int .i64 p, .int .i64 first, .int .i64 last] w fun e w' => ∃ v : Value, True ∧ e = .returned (.tuple #[v, .int .i64 0]) ∧ St w Cold [haN v (part p (10000 - p) n first (last + 1))] w' := by
  have hcc := fun w' => checked_c n k p 0 10000 w'
  have hr : checkF n k p 0 10000 = 0 := by unfold checkF; rw [if_neg (by omega), if_neg (by omega)]
  rw [hr] at hcc
  refine eng_start (n := 39) (args := [.int .i64 n, .int .i64 k, .int .i64 p, .int .i64 first, .int .i64 last]) tab tab_ok fns fns_ok [.tmp 10, .tmp 11] Tryz.func60 rfl rfl rfl rfl ?_
  repeat' (first | (refine gJ ?_; first | refine js rfl rfl rfl rfl ?_ | (refine gcall rfl rfl ?_; (refine j_qc (f := 39) rfl rfl rfl rfl rfl rfl rfl ?_; refine ⟨_, (fun w' _ => hcc w'), ?_⟩)) | (refine gcall rfl rfl ?_; refine gF ?_; refine j_nat (f := 72) rfl rfl rfl rfl rfl rfl rfl (fun w' hs => number_c 0 w' (by omega)) ?_; intro A2 c2) | (refine gcall rfl rfl ?_; refine gF ?_; refine j_callN (f := 86) rfl rfl rfl rfl rfl rfl rfl (fun x : Nat × Nat => .func (.func 103) #[] #[.pointer (some ⟨x.1, 0, none⟩), .pointer (some ⟨x.2, 0, none⟩)]) (fun _ => True) (fun x => [.cells x.1 3 [.int .i64 p], .cells x.2 3 [.int .i64 n]]) (fun w' _ => chances_c n p w') (fun _ => trivial) ?_; rintro ⟨bP, bN⟩ _) | (refine gF ?_; first | refine j_store rfl rfl rfl rfl rfl rfl rfl rfl (by (repeat constructor)) (by rfl) ?_ | (refine j_alloc rfl rfl rfl rfl rfl ?_; intro b) | (refine j_box rfl rfl rfl rfl rfl ?_; intro b))) | (refine gSC ?_; first | refine sc_mv rfl ?_ | refine sc_q rfl ?_ | refine sc_region ?_) | (refine gSQ ?_; refine sq_go rfl ?_) | refine j_nil ?_ | ((refine sc_cond rfl ?_ ?_) <;> intro hc <;> (first | exact absurd hc (by decide) | ((try simp only [engHC] at hc) <;> skip))))
  rename_i bF bL _
  refine sc_nowk [.cells b 53 [.slice A2 (limbs 0).length c2], haN (.slice A2 (limbs 0).length c2) 0, .cells bL 3 [.int .i64 last], .cells bF 3 [.int .i64 first]] (by repeat (first | exact LSub.nil | refine LSub.cons (by repeat (first | exact Rem.here | apply Rem.there)) ?_)) ?_
  intro w1 hw1
  have hw2 : St w Cold _ w1 := hw1
  clear hw1
  have hP := hw2.ext (b := bP) (cs := [.int .i64 p]) (u := 3) (by (repeat constructor))
  have hN := hw2.ext (b := bN) (cs := [.int .i64 n]) (u := 3) (by (repeat constructor))
  have nP : ¬ foots [.cells b 53 [.slice A2 (limbs 0).length c2], haN (.slice A2 (limbs 0).length c2) 0, .cells bL 3 [.int .i64 last], .cells bF 3 [.int .i64 first]] bP := sep_foots (x := .cells bP 3 [.int .i64 p]) hw2 (by repeat (first | exact Rem.here | apply Rem.there)) rfl (by repeat (first | exact LSub.nil | refine LSub.cons (by repeat (first | exact Rem.here | apply Rem.there)) ?_))
  have nN : ¬ foots [.cells b 53 [.slice A2 (limbs 0).length c2], haN (.slice A2 (limbs 0).length c2) 0, .cells bL 3 [.int .i64 last], .cells bF 3 [.int .i64 first]] bN := sep_foots (x := .cells bN 3 [.int .i64 n]) hw2 (by repeat (first | exact Rem.here | apply Rem.there)) rfl (by repeat (first | exact LSub.nil | refine LSub.cons (by repeat (first | exact Rem.here | apply Rem.there)) ?_))
  have hback := hw2.sub (L' := [.cells b 53 [.slice A2 (limbs 0).length c2], haN (.slice A2 (limbs 0).length c2) 0, .cells bL 3 [.int .i64 last], .cells bF 3 [.int .i64 first]]) (by repeat (first | exact LSub.nil | refine LSub.cons (by repeat (first | exact Rem.here | apply Rem.there)) ?_))
  clear hw2
  refine sc_rangeW (σ := Nat) (ξ := Option Addr × Nat) encC (chs p n) (sumS first last) (fun s i => [.cells b 53 [.slice i.1 (limbs s).length i.2], haN (.slice i.1 (limbs s).length i.2) s, .cells bL 3 [.int .i64 last], .cells bF 3 [.int .i64 first]]) 0 (A2, c2) rfl rfl rfl (fun x S vs w' h => by obtain ⟨_, A, c, e, _⟩ := h; rw [e]; rfl) (parsLt rfl) (by repeat (first | exact LSub.nil | refine LSub.cons (by repeat (first | exact Rem.here | apply Rem.there)) ?_)) ?_ ?_ ?_ ?_ ?_
  · intro s i S p hm; simp at hm
  · intro w' l D r hS
    have hnear : Near w1.heap.size (foots [.cells b 53 [.slice A2 (limbs 0).length c2], haN (.slice A2 (limbs 0).length c2) 0, .cells bL 3 [.int .i64 last], .cells bF 3 [.int .i64 first]]) w1 w' := hS.near
    refine chances1_it ⟨bP, 0, none⟩ ⟨bN, 0, none⟩ n p w' _ hn hp (Ext.near hP hnear nP) (Ext.near hN hnear nN) (fun h => ?_) (fun h => ?_)
    · rcases (foots_old (B := 0) hS h).1 with h3 | h3
      · exact absurd hP.lt (Nat.not_lt.2 h3)
      · exact nP h3
    · rcases (foots_old (B := 0) hS h).1 with h3 | h3
      · exact absurd hN.lt (Nat.not_lt.2 h3)
      · exact nN h3
  · intro l D r W1 s i x vs Q henc hat hready hS1 hend
    clear hS1
    obtain ⟨⟨hx1, hx2⟩, A3, c3, rfl, hSL, hnot⟩ := henc
    obtain ⟨j, hj, hsj⟩ := hat
    obtain ⟨hjn, rfl⟩ := chs_at hj
    rw [sum_fold _ _ _ _ _ (by omega)] at hsj
    have hs1 : s ≤ 10000 ^ 500 := by rw [hsj]; exact cap_sum hp hn
    have h500 := cap_500
    obtain ⟨A1, c1⟩ := i
    dsimp only at hnot hSL hx1 hx2 hend ⊢
    clear hsj hj
    generalize bn p (10000 - p) n j = v at *
    by_cases h1 : first ≤ j
    · by_cases h2 : j = last
      · repeat' (first | (refine gJ ?_; refine js rfl rfl rfl rfl ?_) | (refine gSC ?_; first | refine sc_mv rfl ?_ | refine sc_region ?_) | (refine gSQ ?_; refine sq_go rfl ?_) | refine j_nil ?_)
        refine sq_begin rfl hready (by (repeat constructor)) ?_
        repeat' (first | (refine gJ ?_; first | refine js rfl rfl rfl rfl ?_ | (refine gload rfl rfl ?_; refine j_qe rfl rfl rfl ?_; refine ⟨_, q_load_own rfl rfl rfl rfl (by (repeat constructor)) (by first | rfl | assumption), ?_⟩) | (refine gcall rfl rfl ?_; refine gF ?_; refine j_nat (f := 87) rfl rfl rfl rfl rfl rfl rfl (fun w' hs => plus_c A1 c1 s A3 c3 v w' (by omega) (by omega) (sl_of_own hs (by (repeat constructor)) rfl rfl) (hSL.near hs.near hnot)) ?_; intro A4 c4) | (refine gF ?_; refine j_store rfl rfl rfl rfl rfl rfl rfl rfl (by (repeat constructor)) (by rfl) ?_)) | (refine gSC ?_; first | refine sc_mv rfl ?_ | refine sc_q rfl ?_ | refine sc_region ?_) | (refine gSQ ?_; first | refine sq_go rfl ?_ | refine sq_mv rfl ?_) | refine j_nil ?_ | ((refine sc_cond rfl ?_ ?_) <;> intro hc <;> (((try simp only [engHC] at hc) <;> first | (exfalso; omega) | skip))))
        refine hend (.exit 0) (some (.exit 0)) (A4, c4) _ _ _ rfl (if_pos h2) (by repeat (first | exact Rem.here | apply Rem.there)) ?_
        simp only [sumS]
        rw [if_pos h1]
        exact (by repeat (first | exact LSub.nil | refine LSub.cons (by repeat (first | exact Rem.here | apply Rem.there)) ?_))
      · repeat' (first | (refine gJ ?_; refine js rfl rfl rfl rfl ?_) | (refine gSC ?_; first | refine sc_mv rfl ?_ | refine sc_region ?_) | (refine gSQ ?_; refine sq_go rfl ?_) | refine j_nil ?_)
        refine sq_begin rfl hready (by (repeat constructor)) ?_
        repeat' (first | (refine gJ ?_; first | refine js rfl rfl rfl rfl ?_ | (refine gload rfl rfl ?_; refine j_qe rfl rfl rfl ?_; refine ⟨_, q_load_own rfl rfl rfl rfl (by (repeat constructor)) (by first | rfl | assumption), ?_⟩) | (refine gcall rfl rfl ?_; refine gF ?_; refine j_nat (f := 87) rfl rfl rfl rfl rfl rfl rfl (fun w' hs => plus_c A1 c1 s A3 c3 v w' (by omega) (by omega) (sl_of_own hs (by (repeat constructor)) rfl rfl) (hSL.near hs.near hnot)) ?_; intro A4 c4) | (refine gF ?_; refine j_store rfl rfl rfl rfl rfl rfl rfl rfl (by (repeat constructor)) (by rfl) ?_)) | (refine gSC ?_; first | refine sc_mv rfl ?_ | refine sc_q rfl ?_ | refine sc_region ?_) | (refine gSQ ?_; first | refine sq_go rfl ?_ | refine sq_mv rfl ?_) | refine j_nil ?_ | ((refine sc_cond rfl ?_ ?_) <;> intro hc <;> (((try simp only [engHC] at hc) <;> first | (exfalso; omega) | skip))))
        refine hend .normal none (A4, c4) _ _ _ rfl (if_neg h2) (by repeat (first | exact Rem.here | apply Rem.there)) ?_
        simp only [sumS]
        rw [if_pos h1]
        exact (by repeat (first | exact LSub.nil | refine LSub.cons (by repeat (first | exact Rem.here | apply Rem.there)) ?_))
    · by_cases h2 : j = last
      · repeat' (first | (refine gJ ?_; refine js rfl rfl rfl rfl ?_) | (refine gSC ?_; first | refine sc_mv rfl ?_ | refine sc_region ?_) | (refine gSQ ?_; refine sq_go rfl ?_) | refine j_nil ?_)
        refine sq_begin rfl hready (by (repeat constructor)) ?_
        repeat' (first | (refine gJ ?_; first | refine js rfl rfl rfl rfl ?_ | (refine gload rfl rfl ?_; refine j_qe rfl rfl rfl ?_; refine ⟨_, q_load_own rfl rfl rfl rfl (by (repeat constructor)) (by first | rfl | assumption), ?_⟩)) | (refine gSC ?_; first | refine sc_mv rfl ?_ | refine sc_q rfl ?_ | refine sc_region ?_) | (refine gSQ ?_; first | refine sq_go rfl ?_ | refine sq_mv rfl ?_) | refine j_nil ?_ | ((refine sc_cond rfl ?_ ?_) <;> intro hc <;> (((try simp only [engHC] at hc) <;> first | (exfalso; omega) | skip))))
        refine hend (.exit 0) (some (.exit 0)) (A1, c1) _ _ _ rfl (if_pos h2) (by repeat (first | exact Rem.here | apply Rem.there)) ?_
        simp only [sumS]
        rw [if_neg h1]
        exact (by repeat (first | exact LSub.nil | refine LSub.cons (by repeat (first | exact Rem.here | apply Rem.there)) ?_))
      · repeat' (first | (refine gJ ?_; refine js rfl rfl rfl rfl ?_) | (refine gSC ?_; first | refine sc_mv rfl ?_ | refine sc_region ?_) | (refine gSQ ?_; refine sq_go rfl ?_) | refine j_nil ?_)
        refine sq_begin rfl hready (by (repeat constructor)) ?_
        repeat' (first | (refine gJ ?_; first | refine js rfl rfl rfl rfl ?_ | (refine gload rfl rfl ?_; refine j_qe rfl rfl rfl ?_; refine ⟨_, q_load_own rfl rfl rfl rfl (by (repeat constructor)) (by first | rfl | assumption), ?_⟩)) | (refine gSC ?_; first | refine sc_mv rfl ?_ | refine sc_q rfl ?_ | refine sc_region ?_) | (refine gSQ ?_; first | refine sq_go rfl ?_ | refine sq_mv rfl ?_) | refine j_nil ?_ | ((refine sc_cond rfl ?_ ?_) <;> intro hc <;> (((try simp only [engHC] at hc) <;> first | (exfalso; omega) | skip))))
        refine hend .normal none (A1, c1) _ _ _ rfl (if_neg h2) (by repeat (first | exact Rem.here | apply Rem.there)) ?_
        simp only [sumS]
        rw [if_neg h1]
        exact (by repeat (first | exact LSub.nil | refine LSub.cons (by repeat (first | exact Rem.here | apply Rem.there)) ?_))
  · intro D i hj
    have hrun := sum_runs p n first last hl last 0 (by omega)
    rw [show part p (10000 - p) n first 0 = 0 from rfl, List.drop_zero] at hrun
    rw [hrun] at hj
    cases hj
  · rintro D ⟨A9, c9⟩ c hj
    have hrun := sum_runs p n first last hl last 0 (by omega)
    rw [show part p (10000 - p) n first 0 = 0 from rfl, List.drop_zero] at hrun
    rw [hrun] at hj ⊢
    injection hj with hj
    subst hj
    repeat' (first | (refine gJ ?_; first | refine js rfl rfl rfl rfl ?_ | (refine gload rfl rfl ?_; refine j_qe rfl rfl rfl ?_; refine ⟨_, q_load_own rfl rfl rfl rfl (by (repeat constructor)) (by first | rfl | assumption), ?_⟩)) | (refine gSC ?_; first | refine sc_mv rfl ?_ | refine sc_q rfl ?_ | refine sc_region ?_) | (refine gSQ ?_; first | refine sq_go rfl ?_ | refine sq_mv rfl ?_) | refine j_nil ?_)
    refine sq_endm (.inl rfl) rfl rfl (by repeat (first | exact Rem.here | apply Rem.there)) ⟨_, (RVs.cons (RV.tmp rfl) (RVs.cons (RV.tmp rfl) (RVs.nil))), ?_⟩
    intro w' hS
    exact ⟨_, trivial, rfl, St.unround hback (hS.sub (L' := [haN _ _]) (by repeat (first | exact LSub.nil | refine LSub.cons (by repeat (first | exact Rem.here | apply Rem.there)) ?_))) (fun S p hm => by simp at hm)⟩
end Go.Proofs.YtmakokbpadmfbaaGreat


/-
  Chances, plain: growth, turning, the least share.
-/
namespace Go.Proofs.YtmakokbpadmfbaaGreat
set_option linter.unusedVariables false
set_option linter.unusedSimpArgs false
theorem up_mono {p q p' q' : Nat} (h : p ≤ p') (hs : p + q = p' + q') : ∀ n k, up p q n k ≤ up p' q' n k
  | 0, 0 => Nat.le_refl _
  | 0, k + 1 => Nat.le_refl _
  | n + 1, 0 => by
    simp only [up]
    rw [hs]
    exact Nat.mul_le_mul_left _ (up_mono h hs n 0)
  | n + 1, k + 1 => by
    have h1 := up_mono h hs n k
    have h2 := up_mono h hs n (k + 1)
    have h3 := up_anti p q n k
    simp only [up]
    obtain ⟨d, rfl⟩ : ∃ d, p' = p + d := ⟨p' - p, by omega⟩
    obtain rfl : q = d + q' := by omega
    have e1 : p * up p (d + q') n k + d * up p (d + q') n (k + 1) ≤ p * up p (d + q') n k + d * up p (d + q') n k := Nat.add_le_add_left (Nat.mul_le_mul_left _ h3) _
    have e2 : (p + d) * up p (d + q') n k ≤ (p + d) * up (p + d) q' n k := Nat.mul_le_mul_left _ h1
    have e3 : q' * up p (d + q') n (k + 1) ≤ q' * up (p + d) q' n (k + 1) := Nat.mul_le_mul_left _ h2
    rw [Nat.add_mul] at e2
    rw [Nat.add_mul d q']
    omega
/-- k successes or fewer. -/
def low (p q n k : Nat) : Nat := part p q n 0 (k + 1)
theorem part_turn {p q n : Nat} : ∀ k, k ≤ n → part p q n 0 (k + 1) = up q p n (n - k)
  | 0, _ => by
    rw [part_one, bn_flip (Nat.zero_le n), up_split, up_zero q p n (n - 0 + 1) (by omega)]
    simp
  | k + 1, h => by
    rw [part, part_turn k (by omega), if_pos (Nat.zero_le _), bn_flip h, up_split q p n (n - (k + 1)), show n - (k + 1) + 1 = n - k by omega]
    omega
theorem low_turn {p q n k : Nat} (h : k ≤ n) : low p q n k = up q p n (n - k) := part_turn k h
/-- The least number from 0 to 10000 for which something is so. -/
def lowest (E : Nat → Bool) : Nat := ((List.range 10000).find? E).getD 10000
theorem lowest_eq {E : Nat → Bool} {L : Nat} (h1 : ∀ p, p < L → E p = false) (h2 : L < 10000 → E L = true) (h3 : L ≤ 10000) : lowest E = L := by
  unfold lowest
  cases hf : (List.range 10000).find? E with
  | none =>
    have := List.find?_eq_none.1 hf
    rcases Nat.lt_or_ge L 10000 with h | h
    · exact absurd (h2 h) (this L (List.mem_range.2 h))
    · simp; omega
  | some m =>
    have hm := List.find?_some hf
    have hml : m < 10000 := List.mem_range.1 (List.mem_of_find?_eq_some hf)
    rcases Nat.lt_trichotomy m L with h | h | h
    · rw [h1 m h] at hm; cases hm
    · exact h
    · obtain ⟨hm', l1, l2, he, hall⟩ := List.find?_eq_some_iff_append.1 hf
      exfalso
      have hL : L ∈ List.range 10000 := List.mem_range.2 (by omega)
      have hg : (List.range 10000)[l1.length]? = some m := by rw [he]; simp
      have hal : l1.length = m := by
        have hlt := (List.getElem?_eq_some_iff.1 hg).1
        rw [List.length_range] at hlt
        rw [List.getElem?_range hlt] at hg
        injection hg
      have hga : l1[L]? = some L := by
        have h5 : (List.range 10000)[L]? = some L := List.getElem?_range (by omega)
        rw [he, List.getElem?_append_left (by omega)] at h5
        exact h5
      have := hall L (List.mem_of_getElem? hga)
      rw [h2 (by omega)] at this
      cases this
theorem lowest_spec (E : Nat → Bool) : lowest E ≤ 10000 ∧ (∀ p, p < lowest E → E p = false) ∧ (lowest E < 10000 → E (lowest E) = true) := by
  have key : ∃ L, L ≤ 10000 ∧ (∀ p, p < L → E p = false) ∧ (L < 10000 → E L = true) := by
    have : ∀ d, d ≤ 10000 → ∃ L, L ≤ d ∧ (∀ p, p < L → E p = false) ∧ (L < d → E L = true) := by
      intro d
      induction d with
      | zero => exact fun _ => ⟨0, Nat.le_refl _, fun p hp => absurd hp (by omega), fun h => absurd h (by omega)⟩
      | succ d ih =>
        intro hd
        obtain ⟨L, h1, h2, h3⟩ := ih (by omega)
        rcases Nat.lt_or_ge L d with h | h
        · exact ⟨L, by omega, h2, fun _ => h3 h⟩
        · have : L = d := by omega
          subst this
          cases hE : E L with
          | true => exact ⟨L, by omega, h2, fun _ => hE⟩
          | false =>
            refine ⟨L + 1, by omega, fun p hp => ?_, fun h => absurd h (by omega)⟩
            rcases Nat.lt_or_ge p L with h4 | h4
            · exact h2 p h4
            · have : p = L := by omega
              rw [this]; exact hE
    exact this 10000 (Nat.le_refl _)
  obtain ⟨L, h1, h2, h3⟩ := key
  rw [lowest_eq h2 h3 h1]
  exact ⟨h1, h2, h3⟩
/-- Whether a share is possible. -/
def posB (n k r p : Nat) : Bool := excB (up p (10000 - p) n k) n r
theorem excB_mono {c c' n r : Nat} (h : c ≤ c') (he : excB c n r = true) : excB c' n r = true := by
  unfold excB at *
  rw [decide_eq_true_eq] at *
  exact Nat.lt_of_lt_of_le he (Nat.mul_le_mul_right _ h)
theorem posB_mono (n k r : Nat) : ∀ a b, a ≤ b → b ≤ 10000 → posB n k r a = true → posB n k r b = true := fun a b h hb he =>
  excB_mono (up_mono h (by omega) n k) he
/-- The lower bound. -/
def lowF (n k r : Nat) : Nat := lowest (posB n k r)
end Go.Proofs.YtmakokbpadmfbaaGreat

/-
  stats: Chance, Upper, Lower, search, Least, Greatest.
-/
namespace Go.Proofs.YtmakokbpadmfbaaGreat
open Go.RowKit Eng
set_option linter.unusedVariables false
set_option linter.unusedSimpArgs false
set_option maxHeartbeats 8000000
attribute [local irreducible] SC SQ J Qt Calls Iterates LSub FSub
set_option exponentiation.threshold 600
theorem upper_c (n k p : Nat) (w : World) (hk : k ≤ n) (hn : n ≤ 500) (hp : p ≤ 10000) :
    Calls Tryz.prog 30 #[.int .i64 n, .int .i64 k, .int .i64 p] w fun e w' => ∃ v : Value, True ∧ e = .returned (.tuple #[v, .int .i64 0]) ∧ St w Cold [haN v (up p (10000 - p) n k)] w' := by
  have h1 := fun w' => summed_c n k p k n w' hk hn hp hk (Nat.le_refl _)
  rw [part_high _ _ _ _ (by omega)] at h1
  refine eng_start (n := 16) (args := [.int .i64 n, .int .i64 k, .int .i64 p]) tab tab_ok fns fns_ok [.tmp 6, .tmp 7] Tryz.func30 rfl rfl rfl rfl ?_
  repeat' (first | (refine gJ ?_; first | refine js rfl rfl rfl rfl ?_ | (refine gcall rfl rfl ?_; refine gF ?_; refine j_nat2 (f := 60) rfl rfl rfl rfl rfl rfl rfl (fun w' _ => h1 w') ?_; intro A2 c2)) | (refine gSC ?_; first | refine sc_mv rfl ?_ | refine sc_q rfl ?_ | refine sc_region ?_) | (refine gSQ ?_; first | refine sq_go rfl ?_ | refine sq_ende (by first | exact .inl rfl | exact .inr rfl) rfl rfl ⟨_, (RVs.cons (RV.tmp rfl) (RVs.cons (RV.tmp rfl) (RVs.nil))), ?_⟩) | refine j_nil ?_)
  intro w' hS
  exact ⟨_, trivial, rfl, hS.sub (by repeat (first | exact LSub.nil | refine LSub.cons (by repeat (first | exact Rem.here | apply Rem.there)) ?_))⟩
theorem lower_c (n k p : Nat) (w : World) (hk : k ≤ n) (hn : n ≤ 500) (hp : p ≤ 10000) :
    Calls Tryz.prog 31 #[.int .i64 n, .int .i64 k, .int .i64 p] w fun e w' => ∃ v : Value, True ∧ e = .returned (.tuple #[v, .int .i64 0]) ∧ St w Cold [haN v (low p (10000 - p) n k)] w' := by
  have h1 := fun w' => summed_c n k p 0 k w' hk hn hp (Nat.zero_le _) hk
  refine eng_start (n := 15) (args := [.int .i64 n, .int .i64 k, .int .i64 p]) tab tab_ok fns fns_ok [.tmp 6, .tmp 7] Tryz.func31 rfl rfl rfl rfl ?_
  repeat' (first | (refine gJ ?_; first | refine js rfl rfl rfl rfl ?_ | (refine gcall rfl rfl ?_; refine gF ?_; refine j_nat2 (f := 60) rfl rfl rfl rfl rfl rfl rfl (fun w' _ => h1 w') ?_; intro A2 c2)) | (refine gSC ?_; first | refine sc_mv rfl ?_ | refine sc_q rfl ?_ | refine sc_region ?_) | (refine gSQ ?_; first | refine sq_go rfl ?_ | refine sq_ende (by first | exact .inl rfl | exact .inr rfl) rfl rfl ⟨_, (RVs.cons (RV.tmp rfl) (RVs.cons (RV.tmp rfl) (RVs.nil))), ?_⟩) | refine j_nil ?_)
  intro w' hS
  exact ⟨_, trivial, rfl, hS.sub (by repeat (first | exact LSub.nil | refine LSub.cons (by repeat (first | exact Rem.here | apply Rem.there)) ?_))⟩
theorem search_c (f : Nat) (caps : List Value) (E : Nat → Bool) (w : World) (hcal : has fns f = true) (hm : ∀ a b, a ≤ b → b ≤ 10000 → E a = true → E b = true)
    (hE : ∀ m : Nat, m < 10000 → ∀ w', Below w.heap.size w w' → Calls Tryz.prog f (.int .i64 m :: caps).toArray w' fun e w'' => e = .returned (.bool (E m)) ∧ Below w'.heap.size w' w'') :
    Calls Tryz.prog 40 #[.func (.func f) #[] caps.toArray] w fun e w' => e = .returned (.int .i64 (lowest E : Nat)) ∧ Below w.heap.size w w' := by
  refine eng_start (n := 20) (args := [.func (.func f) #[] caps.toArray]) tab tab_ok fns fns_ok [.tmp 2] Tryz.func40 rfl rfl rfl rfl ?_
  repeat' (first | (refine gJ ?_; refine js rfl rfl rfl rfl ?_) | (refine gSC ?_; first | refine sc_mv rfl ?_ | refine sc_region ?_) | (refine gSQ ?_; refine sq_go rfl ?_) | refine j_nil ?_)
  refine sc_loop (ι := Nat × Nat) (fun i => i.1 ≤ i.2 ∧ i.2 ≤ 10000 ∧ (∀ p, p < i.1 → E p = false) ∧ (i.2 < 10000 → E i.2 = true)) (fun i => i.2 - i.1) (fun i => [(0, .func (.func f) #[] caps.toArray), (3, .int .i64 i.1), (4, .int .i64 i.2)]) (fun _ => []) (0, 10000) ⟨by omega, by omega, fun p hp => absurd hp (by omega), fun h => absurd h (by omega)⟩ (by repeat (first | exact FSub.nil | refine FSub.cons rfl ?_ | refine FSub.conse rfl (by congr 1; omega) ?_)) (by repeat (first | exact LSub.nil | refine LSub.cons (by repeat (first | exact Rem.here | apply Rem.there)) ?_)) ?_
  rintro ⟨lo, hi⟩ ⟨h1, h2, h3, h4⟩
  dsimp only at h1 h2 h3 h4 ⊢
  by_cases hlt : lo < hi
  · obtain ⟨m, hmid⟩ : ∃ m, m = (lo + hi) / 2 := ⟨_, rfl⟩
    have em : ((lo : Int) + hi) / 2 = (m : Int) := by omega
    have hEm := fun w' hs => hE m (by omega) w' hs
    rw [← em] at hEm
    cases hEv : E m
    · rw [hEv] at hEm
      repeat' (first | (refine gJ ?_; first | refine js rfl rfl rfl rfl ?_ | refine jar rfl rfl rfl rfl rfl rfl rfl (by omega) ?_ | (refine gcall rfl rfl ?_; refine j_qc (f := f) rfl rfl rfl rfl rfl rfl hcal ?_; refine ⟨_, (fun w' hs => hEm w' hs.below), ?_⟩) | (refine j_qe rfl rfl rfl ?_; refine ⟨_, q_quo rfl rfl rfl (by omega), ?_⟩)) | (refine gSC ?_; first | refine sc_mv rfl ?_ | refine sc_q rfl ?_ | refine sc_region ?_) | (refine gSQ ?_; first | refine sq_go rfl ?_ | refine sq_mv rfl ?_) | refine j_nil ?_ | ((refine sc_cond rfl ?_ ?_) <;> intro hc <;> (first | exact absurd hc (by decide) | ((try simp only [engHC] at hc) <;> first | (exfalso; omega) | skip))))
      refine sq_loop (m + 1, hi) ⟨by show m + 1 ≤ hi; omega, h2, fun p hp => ?_, h4⟩ (by show hi - (m + 1) < hi - lo; omega) (by repeat (first | exact FSub.nil | refine FSub.cons rfl ?_ | refine FSub.conse rfl (by congr 1; omega) ?_)) (by repeat (first | exact LSub.nil | refine LSub.cons (by repeat (first | exact Rem.here | apply Rem.there)) ?_))
      cases hp' : E p with
      | false => rfl
      | true =>
        have := hm p m (by have : p < m + 1 := hp; omega) (by omega) hp'
        rw [hEv] at this
        cases this
    · rw [hEv] at hEm
      repeat' (first | (refine gJ ?_; first | refine js rfl rfl rfl rfl ?_ | refine jar rfl rfl rfl rfl rfl rfl rfl (by omega) ?_ | (refine gcall rfl rfl ?_; refine j_qc (f := f) rfl rfl rfl rfl rfl rfl hcal ?_; refine ⟨_, (fun w' hs => hEm w' hs.below), ?_⟩) | (refine j_qe rfl rfl rfl ?_; refine ⟨_, q_quo rfl rfl rfl (by omega), ?_⟩)) | (refine gSC ?_; first | refine sc_mv rfl ?_ | refine sc_q rfl ?_ | refine sc_region ?_) | (refine gSQ ?_; first | refine sq_go rfl ?_ | refine sq_mv rfl ?_) | refine j_nil ?_ | ((refine sc_cond rfl ?_ ?_) <;> intro hc <;> (first | exact absurd hc (by decide) | ((try simp only [engHC] at hc) <;> first | (exfalso; omega) | skip))))
      exact sq_loop (lo, m) ⟨by show lo ≤ m; omega, by show m ≤ 10000; omega, h3, fun _ => hEv⟩ (by show m - lo < hi - lo; omega) (by repeat (first | exact FSub.nil | refine FSub.cons rfl ?_ | refine FSub.conse rfl (by congr 1; all_goals omega) ?_)) (by repeat (first | exact LSub.nil | refine LSub.cons (by repeat (first | exact Rem.here | apply Rem.there)) ?_))
  · repeat' (first | (refine gJ ?_; refine js rfl rfl rfl rfl ?_) | (refine gSC ?_; first | refine sc_mv rfl ?_ | refine sc_q rfl ?_ | refine sc_region ?_) | (refine gSQ ?_; first | refine sq_go rfl ?_ | refine sq_mv rfl ?_ | refine sq_ende (by first | exact .inl rfl | exact .inr rfl) rfl rfl ⟨_, (RVs.cons (RV.tmp rfl) (RVs.nil)), ?_⟩) | refine j_nil ?_ | ((refine sc_cond rfl ?_ ?_) <;> intro hc <;> (((try simp only [engHC] at hc) <;> first | (exfalso; omega) | skip))))
    (intro w' hS; refine ⟨?_, hS.below⟩; simp only [pack])
    have : lo = hi := by omega
    subst this
    rw [lowest_eq h3 h4 h2]
theorem up_cap {p n k : Nat} (hp : p ≤ 10000) (hn : n ≤ 500) : up p (10000 - p) n k ≤ 10000 ^ 500 := by
  refine Nat.le_trans (up_le _ _ _ _) ?_
  rw [show p + (10000 - p) = 10000 by omega]
  exact Nat.pow_le_pow_right (by omega) hn
theorem least1_c (a1 a2 a3 : Addr) (n k r m : Nat) (w : World) (hk : k ≤ n) (hn : n ≤ 500) (hr : r ≤ 10000) (hm : m ≤ 10000) (h1 : Ext w a1 [.int .i64 n]) (h2 : Ext w a2 [.int .i64 k]) (h3 : Ext w a3 [.int .i64 r]) :
    Calls Tryz.prog 41 #[.int .i64 m, .pointer (some a1), .pointer (some a2), .pointer (some a3)] w fun e w' => e = .returned (.bool (posB n k r m)) ∧ Below w.heap.size w w' := by
  refine eng_start (n := 19) (args := [.int .i64 m, .pointer (some a1), .pointer (some a2), .pointer (some a3)]) tab tab_ok fns fns_ok [.tmp 5] Tryz.func41 rfl rfl rfl rfl ?_
  repeat' (first | (refine gJ ?_; first | refine js rfl rfl rfl rfl ?_ | (refine gload rfl rfl ?_; refine j_qe rfl rfl rfl ?_; refine ⟨_, q_load_ext0 rfl rfl rfl rfl ⟨by assumption, (by first | exact id | assumption)⟩ (by rfl), ?_⟩) | (refine gcall rfl rfl ?_; (refine j_qc (f := 42) rfl rfl rfl rfl rfl rfl rfl ?_; refine ⟨_, (fun w' hs => exceeds_c A2 c2 (up m (10000 - m) n k) n r w' (up_cap hm hn) hn hr (sl_of_own hs (by (repeat constructor)) rfl rfl)), ?_⟩)) | (refine gcall rfl rfl ?_; refine gF ?_; refine j_nat2 (f := 30) rfl rfl rfl rfl rfl rfl rfl (fun w' _ => upper_c n k m w' hk hn hm) ?_; intro A2 c2)) | (refine gSC ?_; first | refine sc_mv rfl ?_ | refine sc_q rfl ?_ | refine sc_region ?_) | (refine gSQ ?_; first | refine sq_go rfl ?_ | refine sq_ende (by first | exact .inl rfl | exact .inr rfl) rfl rfl ⟨_, (RVs.cons (RV.tmp rfl) (RVs.nil)), ?_⟩) | refine j_nil ?_)
  ((intro w' hS; refine ⟨?_, hS.below⟩; simp only [pack]); rfl)
theorem greatest1_c (a1 a2 a3 : Addr) (n k r m : Nat) (w : World) (hk : k ≤ n) (hn : n ≤ 500) (hr : r ≤ 10000) (hm : m ≤ 10000) (h1 : Ext w a1 [.int .i64 n]) (h2 : Ext w a2 [.int .i64 k]) (h3 : Ext w a3 [.int .i64 r]) :
    Calls Tryz.prog 43 #[.int .i64 m, .pointer (some a1), .pointer (some a2), .pointer (some a3)] w fun e w' => e = .returned (.bool (posB n (n - k) r m)) ∧ Below w.heap.size w w' := by
  have e1 : low (10000 - m) (10000 - (10000 - m)) n k = up m (10000 - m) n (n - k) := by rw [low_turn hk, show 10000 - (10000 - m) = m by omega]
  have hlow : ∀ w', Calls Tryz.prog 31 #[.int .i64 n, .int .i64 k, .int .i64 ((10000 : Int) - m)] w' fun e w'' => ∃ v : Value, True ∧ e = .returned (.tuple #[v, .int .i64 0]) ∧ St w' Cold [haN v (up m (10000 - m) n (n - k))] w'' := fun w' => by
    rw [← e1, show (10000 : Int) - m = ((10000 - m : Nat) : Int) by omega]
    exact lower_c n k (10000 - m) w' hk hn (by omega)
  refine eng_start (n := 20) (args := [.int .i64 m, .pointer (some a1), .pointer (some a2), .pointer (some a3)]) tab tab_ok fns fns_ok [.tmp 5] Tryz.func43 rfl rfl rfl rfl ?_
  repeat' (first | (refine gJ ?_; first | refine js rfl rfl rfl rfl ?_ | (refine gload rfl rfl ?_; refine j_qe rfl rfl rfl ?_; refine ⟨_, q_load_ext0 rfl rfl rfl rfl ⟨by assumption, (by first | exact id | assumption)⟩ (by rfl), ?_⟩) | refine jar rfl rfl rfl rfl rfl rfl rfl (by omega) ?_ | (refine gcall rfl rfl ?_; (refine j_qc (f := 42) rfl rfl rfl rfl rfl rfl rfl ?_; refine ⟨_, (fun w' hs => exceeds_c A2 c2 (up m (10000 - m) n (n - k)) n r w' (up_cap hm hn) hn hr (sl_of_own hs (by (repeat constructor)) rfl rfl)), ?_⟩)) | (refine gcall rfl rfl ?_; refine gF ?_; refine j_nat2 (f := 31) rfl rfl rfl rfl rfl rfl rfl (fun w' _ => hlow w') ?_; intro A2 c2)) | (refine gSC ?_; first | refine sc_mv rfl ?_ | refine sc_q rfl ?_ | refine sc_region ?_) | (refine gSQ ?_; first | refine sq_go rfl ?_ | refine sq_ende (by first | exact .inl rfl | exact .inr rfl) rfl rfl ⟨_, (RVs.cons (RV.tmp rfl) (RVs.nil)), ?_⟩) | refine j_nil ?_)
  ((intro w' hS; refine ⟨?_, hS.below⟩; simp only [pack]); rfl)
theorem least_c (n k r : Nat) (w : World) (hk : k ≤ n) (hn : n ≤ 500) (hr : 1 ≤ r ∧ r ≤ 2000) :
    Calls Tryz.prog 19 #[.int .i64 n, .int .i64 k, .int .i64 r] w fun e w' => e = .returned (.tuple #[.int .i64 (lowF n k r : Nat), .int .i64 0]) ∧ Below w.heap.size w w' := by
  have hcc := fun w' => checked_c n k r 1 2000 w'
  rw [show checkF n k r 1 2000 = 0 by unfold checkF; rw [if_neg (by omega), if_neg (by omega)]] at hcc
  refine eng_start (n := 18) (args := [.int .i64 n, .int .i64 k, .int .i64 r]) tab tab_ok fns fns_ok [.tmp 6, .tmp 7] Tryz.func19 rfl rfl rfl rfl ?_
  repeat' (first | (refine gJ ?_; first | refine js rfl rfl rfl rfl ?_ | (refine gload rfl rfl ?_; refine j_qe rfl rfl rfl ?_; refine ⟨_, q_load_own rfl rfl rfl rfl (by (repeat constructor)) (by first | rfl | assumption), ?_⟩) | (refine gcall rfl rfl ?_; first | (refine j_qc (f := 39) rfl rfl rfl rfl rfl rfl rfl ?_; refine ⟨_, (fun w' _ => hcc w'), ?_⟩) | (refine j_qc (f := 40) rfl rfl rfl rfl rfl rfl rfl ?_; refine ⟨_, (fun w' hs => search_c 41 _ (posB n k r) w' rfl (posB_mono n k r) (fun m hm w'' hb => least1_c _ _ _ n k r m w'' hk hn (by omega) (by omega) ((hs.ext (by (repeat constructor))).later hb (Nat.le_refl _)) ((hs.ext (by (repeat constructor))).later hb (Nat.le_refl _)) ((hs.ext (by (repeat constructor))).later hb (Nat.le_refl _)))), ?_⟩)) | (refine gF ?_; (refine j_box rfl rfl rfl rfl rfl ?_; intro b)) | (refine j_qe rfl rfl rfl ?_; refine ⟨_, q_makeFunc rfl rfl, ?_⟩)) | (refine gSC ?_; first | refine sc_mv rfl ?_ | refine sc_q rfl ?_ | refine sc_region ?_) | (refine gSQ ?_; first | refine sq_go rfl ?_ | refine sq_ende (by first | exact .inl rfl | exact .inr rfl) rfl rfl ⟨_, (RVs.cons (RV.tmp rfl) (RVs.cons (RV.tmp rfl) (RVs.nil))), ?_⟩) | refine j_nil ?_ | ((refine sc_cond rfl ?_ ?_) <;> intro hc <;> (first | exact absurd hc (by decide) | ((try simp only [engHC] at hc) <;> skip))))
  all_goals ((intro w' hS; refine ⟨?_, hS.below⟩; simp only [pack]); rfl)
theorem greatest_c (n k r : Nat) (w : World) (hk : k ≤ n) (hn : n ≤ 500) (hr : 1 ≤ r ∧ r ≤ 2000) :
    Calls Tryz.prog 20 #[.int .i64 n, .int .i64 k, .int .i64 r] w fun e w' => e = .returned (.tuple #[.int .i64 ((10000 : Int) - (lowF n (n - k) r : Nat)), .int .i64 0]) ∧ Below w.heap.size w w' := by
  have hcc := fun w' => checked_c n k r 1 2000 w'
  have hlo := (lowest_spec (posB n (n - k) r)).1
  have hlo2 : (lowest (posB n (n - k) r) : Int) ≤ 10000 := by omega
  rw [show checkF n k r 1 2000 = 0 by unfold checkF; rw [if_neg (by omega), if_neg (by omega)]] at hcc
  refine eng_start (n := 19) (args := [.int .i64 n, .int .i64 k, .int .i64 r]) tab tab_ok fns fns_ok [.tmp 6, .tmp 7] Tryz.func20 rfl rfl rfl rfl ?_
  repeat' (first | (refine gJ ?_; first | refine js rfl rfl rfl rfl ?_ | (refine gload rfl rfl ?_; refine j_qe rfl rfl rfl ?_; refine ⟨_, q_load_own rfl rfl rfl rfl (by (repeat constructor)) (by first | rfl | assumption), ?_⟩) | refine jar rfl rfl rfl rfl rfl rfl rfl (by omega) ?_ | (refine gcall rfl rfl ?_; first | (refine j_qc (f := 39) rfl rfl rfl rfl rfl rfl rfl ?_; refine ⟨_, (fun w' _ => hcc w'), ?_⟩) | (refine j_qc (f := 40) rfl rfl rfl rfl rfl rfl rfl ?_; refine ⟨_, (fun w' hs => search_c 43 _ (posB n (n - k) r) w' rfl (posB_mono n (n - k) r) (fun m hm w'' hb => greatest1_c _ _ _ n k r m w'' hk hn (by omega) (by omega) ((hs.ext (by (repeat constructor))).later hb (Nat.le_refl _)) ((hs.ext (by (repeat constructor))).later hb (Nat.le_refl _)) ((hs.ext (by (repeat constructor))).later hb (Nat.le_refl _)))), ?_⟩)) | (refine gF ?_; (refine j_box rfl rfl rfl rfl rfl ?_; intro b)) | (refine j_qe rfl rfl rfl ?_; refine ⟨_, q_makeFunc rfl rfl, ?_⟩)) | (refine gSC ?_; first | refine sc_mv rfl ?_ | refine sc_q rfl ?_ | refine sc_region ?_) | (refine gSQ ?_; first | refine sq_go rfl ?_ | refine sq_ende (by first | exact .inl rfl | exact .inr rfl) rfl rfl ⟨_, (RVs.cons (RV.tmp rfl) (RVs.cons (RV.tmp rfl) (RVs.nil))), ?_⟩) | refine j_nil ?_ | ((refine sc_cond rfl ?_ ?_) <;> intro hc <;> (first | exact absurd hc (by decide) | ((try simp only [engHC] at hc) <;> skip))))
  all_goals ((intro w' hS; refine ⟨?_, hS.below⟩; simp only [pack]); rfl)
end Go.Proofs.YtmakokbpadmfbaaGreat

