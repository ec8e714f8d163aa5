/-
  In one text: Me1, Me0.
-/
import Derived.Test.YtmakokbpadmfbaaGreatCl2
import Derived.Test.YtmakokbpadmfbaaGreatEngCoreB
import Derived.Test.YtmakokbpadmfbaaGreatSta4
/-
  service: lanes, rows.
-/
namespace Go.Proofs.YtmakokbpadmfbaaGreat
open Go.RowKit Eng
set_option linter.unusedVariables false
set_option linter.unusedSimpArgs false
set_option maxHeartbeats 8000000
attribute [local irreducible] SC SQ J Qt Calls Iterates LSub FSub
abbrev lnV (k : Lane) : Value := .agg (elC k).toArray
theorem lane_eq (a b : Lane) : a = b ↔ a.cl = b.cl ∧ a.fr = b.fr ∧ a.to = b.to := by
  cases a; cases b; simp
theorem eq74 (a b : Lane) (w : World) : (Op.equalIn 10000 74 (lnV a) (lnV b)).run Tryz.prog w = .ok (decide (a = b)) w := by
  have u3 := Tryz.underlying3
  have a3 := Tryz.isAgg3
  have z3 := Tryz.sizeOf3
  have u5 := Tryz.underlying5
  have a5 := Tryz.isAgg5
  have z5 := Tryz.sizeOf5
  rw [run_equalIn_agg w 9999 74 _ _ (by kernel_rfl) (by kernel_rfl)]
  simp only [Program.fieldsOf, Tryz.underlying74]
  go_simp
  have e : decide (a = b) = decide (a.cl = b.cl ∧ a.fr = b.fr ∧ a.to = b.to) := decide_eq_decide.2 (lane_eq a b)
  rw [e]
  by_cases h1 : a.cl = b.cl <;> by_cases h2 : a.fr = b.fr <;> by_cases h3 : a.to = b.to <;> simp [h1, h2, h3]
theorem key74 : KeyOk Tryz.prog 74 lnV := by
  refine ⟨⟨_, Tryz.underlying74, fun a b => rfl⟩, fun b k w => ?_, fun a b w => ?_, fun k => ?_⟩
  · have u3 := Tryz.underlying3
    have a3 := Tryz.isAgg3
    have z3 := Tryz.sizeOf3
    have u5 := Tryz.underlying5
    have a5 := Tryz.isAgg5
    have z5 := Tryz.sizeOf5
    have hc : ∀ (t : Nat) (n : Int) (ik : IntKind) (w : World), Tryz.prog.underlying t = some (.int ik) → (Instr.checkKey b 9999 t (.int ik n)).run Tryz.prog w = .ok () w := fun t n ik w h => run_checkKey_ h b n w 9998
    show (Instr.checkKey b (9999 + 1) 74 (lnV k)).run Tryz.prog w = .ok () w
    rw [Instr.checkKey]
    have h3 := fun n w => hc 3 n .i64 w u3
    have h5 := fun n w => hc 5 n .u8 w u5
    simp only [Sem.run_bind, run_underlying Tryz.underlying74, Result.andThen_ok]
    go_simp
  · have := eq74 a b w
    simpa [Op.equal, Op.maxDepth] using this
  · show Instr.sameBits (9999 + 1) (lnV k) (lnV k) = true
    simp [Instr.sameBits]
structure Rw where
  cl : Int
  fr : Int
  to : Int
  tr : Int
  kp : Int
  op : Int
  ot : Int
  le : Int
  gr : Int
deriving Inhabited, DecidableEq
abbrev rwC (r : Rw) : List Value := [.int .u8 r.cl, .int .i64 r.fr, .int .i64 r.to, .int .i64 r.tr, .int .i64 r.kp, .int .i64 r.op, .int .i64 r.ot, .int .i64 r.le, .int .i64 r.gr]
abbrev rwV (r : Rw) : Value := .agg (rwC r).toArray
/-- An item with an outcome, added. -/
def cntR (r : Rw) (o : Int) : Rw := if o = 1 then { r with op := r.op + 1 } else if o = 4 then { r with ot := r.ot + 1 } else if o = 2 then { r with kp := r.kp + 1, tr := r.tr + 1 } else { r with tr := r.tr + 1 }
def smallR (r : Rw) : Prop := 0 ≤ r.tr ∧ r.tr ≤ 1000000 ∧ 0 ≤ r.kp ∧ r.kp ≤ r.tr ∧ 0 ≤ r.op ∧ r.op ≤ 1000000 ∧ 0 ≤ r.ot ∧ r.ot ≤ 1000000
theorem count_c {w0 w : World} {hot : Nat → Prop} {L L' : List HA} {b : Nat} {r : Rw} {o : Int} (hs : St w0 hot L w) (hr : smallR r) (hin : InL L (.cells b 35 (rwC r))) (hup : Upd L (.cells b 35 (rwC r)) (.cells b 35 (rwC (cntR r o))) L') :
    Calls Tryz.prog 67 #[.pointer (some ⟨b, 0, none⟩), .int .u8 o] w fun e w' => ∃ x : Unit, True ∧ e = .returned (.tuple #[]) ∧ St w0 hot L' w' := by
  have hle := hs.lent hin trivial
  unfold smallR at hr
  have hup : ∀ r', cntR r o = r' → Upd L (.cells b 35 (rwC r)) (.cells b 35 (rwC r')) L' := fun r' h => h ▸ hup
  unfold cntR at hup
  refine eng_start_lent (n := 46) (args := [.pointer (some ⟨b, 0, none⟩), .int .u8 o]) tab tab_ok fns fns_ok [] _ _ Tryz.func67 rfl rfl rfl rfl (hle) ?_
  repeat' (first | (refine gJ ?_; first | refine js rfl rfl rfl rfl ?_ | (refine gload rfl rfl ?_; refine j_qe rfl rfl rfl ?_; refine ⟨_, q_load_own rfl rfl rfl rfl (by (repeat constructor)) (by first | rfl | assumption), ?_⟩) | refine jfield rfl rfl rfl rfl rfl rfl rfl rfl ?_ | refine jar rfl rfl rfl rfl rfl rfl rfl (by omega) ?_ | (refine gF ?_; refine j_store rfl rfl rfl rfl rfl rfl rfl rfl (by (repeat constructor)) (by rfl) ?_)) | (refine gSC ?_; first | refine sc_mv rfl ?_ | refine sc_region ?_) | (refine gSQ ?_; first | refine sq_go rfl ?_ | refine sq_mv rfl ?_ | refine sq_ende (by first | exact .inl rfl | exact .inr rfl) rfl rfl ⟨_, (RVs.nil), ?_⟩) | refine j_nil ?_ | ((refine sc_cond rfl ?_ ?_) <;> intro hc <;> (((try simp only [engHC] at hc) <;> skip))))
  all_goals
    intro w' hS
    refine ⟨(), trivial, rfl, ?_⟩
    first
      | exact hs.back (hup { r with op := r.op + 1 } (by rw [if_pos (by omega)])) hS trivial
      | exact hs.back (hup { r with ot := r.ot + 1 } (by rw [if_neg (by omega), if_pos (by omega)])) hS trivial
      | exact hs.back (hup { r with kp := r.kp + 1, tr := r.tr + 1 } (by rw [if_neg (by omega), if_neg (by omega), if_pos (by omega)])) hS trivial
      | exact hs.back (hup { r with tr := r.tr + 1 } (by rw [if_neg (by omega), if_neg (by omega), if_neg (by omega)])) hS trivial
def bndR (r : Rw) (risk : Int) : Rw := { r with le := ((lowF r.tr.toNat r.kp.toNat risk.toNat : Nat) : Int), gr := 10000 - ((lowF r.tr.toNat (r.tr.toNat - r.kp.toNat) risk.toNat : Nat) : Int) }
theorem bound_c {w0 w : World} {hot : Nat → Prop} {L L' : List HA} {b : Nat} {r : Rw} {risk : Int} (hs : St w0 hot L w) (hr : 0 ≤ r.kp ∧ r.kp ≤ r.tr ∧ r.tr ≤ 500) (hk : 1 ≤ risk ∧ risk ≤ 2000) (hin : InL L (.cells b 35 (rwC r))) (hup : Upd L (.cells b 35 (rwC r)) (.cells b 35 (rwC (bndR r risk))) L') :
    Calls Tryz.prog 70 #[.pointer (some ⟨b, 0, none⟩), .int .i64 risk] w fun e w' => ∃ x : Unit, True ∧ e = .returned (.int .i64 0) ∧ St w0 hot L' w' := by
  have hle := hs.lent hin trivial
  obtain ⟨n, hn⟩ : ∃ n : Nat, r.tr = n := ⟨r.tr.toNat, by omega⟩
  obtain ⟨k, hk9⟩ : ∃ k : Nat, r.kp = k := ⟨r.kp.toNat, by omega⟩
  obtain ⟨ri9, rfl⟩ : ∃ k : Nat, risk = k := ⟨risk.toNat, by omega⟩
  have h1 := fun w' => least_c n k ri9 w' (by omega) (by omega) (by omega)
  have h2 := fun w' => greatest_c n k ri9 w' (by omega) (by omega) (by omega)
  unfold bndR at hup
  rw [← hn, ← hk9] at h1 h2
  rw [show r.tr.toNat = n by omega, show r.kp.toNat = k by omega, Int.toNat_natCast] at hup
  generalize ((lowF n k ri9 : Nat) : Int) = x1 at *
  generalize (10000 : Int) - ((lowF n (n - k) ri9 : Nat) : Int) = x2 at *
  refine eng_start_lent (n := 42) (args := [.pointer (some ⟨b, 0, none⟩), .int .i64 ri9]) tab tab_ok fns fns_ok [.tmp 4] _ _ Tryz.func70 rfl rfl rfl rfl (hle) ?_
  repeat' (first | (refine gJ ?_; first | refine js rfl rfl rfl rfl ?_ | (refine gload rfl rfl ?_; refine j_qe rfl rfl rfl ?_; refine ⟨_, q_load_own rfl rfl rfl rfl (by (repeat constructor)) (by first | rfl | assumption), ?_⟩) | refine jfield rfl rfl rfl rfl rfl rfl rfl rfl ?_ | (refine gcall rfl rfl ?_; first | (refine j_qc (f := 19) rfl rfl rfl rfl rfl rfl rfl ?_; refine ⟨_, (fun w' _ => h1 w'), ?_⟩) | (refine j_qc (f := 20) rfl rfl rfl rfl rfl rfl rfl ?_; refine ⟨_, (fun w' _ => h2 w'), ?_⟩)) | (refine gF ?_; refine j_store rfl rfl rfl rfl rfl rfl rfl rfl (by (repeat constructor)) (by rfl) ?_)) | (refine gSC ?_; first | refine sc_mv rfl ?_ | refine sc_q rfl ?_ | refine sc_region ?_ | refine sc_auto0 2 (.q 0 (.q 1 (.q 2 (.q 3 (.q 5 (.q 6 (.q 7 (.q 9 (.b 4 8 (.e 8 (.q 10 (.q 11 (.q 12 (.q 13 (.q 14 (.q 15 (.e 16 (.q 17 (.z)))))))))) (.e 4 (.q 10 (.q 11 (.q 12 (.q 13 (.q 14 (.q 15 (.e 16 (.q 17 (.z))))))))))))))))))) mixed ?_ | refine sc_auto0 5 (.q 0 (.q 1 (.q 2 (.q 3 (.q 5 (.q 6 (.q 7 (.q 9 (.b 4 8 (.e 8 (.q 10 (.q 11 (.q 12 (.q 13 (.q 14 (.q 15 (.e 16 (.q 17 (.z)))))))))) (.e 4 (.q 10 (.q 11 (.q 12 (.q 13 (.q 14 (.q 15 (.e 16 (.q 17 (.z))))))))))))))))))) mixed ?_) | (refine gJG ?_; first | refine jg_q rfl (by kernel_rfl) ?_ | refine jg_e (by kernel_rfl) rfl ?_ | refine jg_b (by kernel_rfl) rfl rfl ?_ ?_ | refine jg_done (by kernel_rfl) ?_) | (refine gSQ ?_; first | refine jg_next ?_ | (refine gFE ?_; first | refine jg_next0 ?_ | refine jg_nextE (by first | exact LSub.refl | (repeat (first | exact LSub.refl | refine LSub.cons (by repeat (first | exact Rem.here | apply Rem.there)) ?_ | apply LSub.skip))) ?_) | refine sq_go rfl ?_ | refine sq_ende (by first | exact .inl rfl | exact .inr rfl) rfl rfl ⟨_, (RVs.cons (RV.tmp rfl) (RVs.nil)), ?_⟩) | refine j_nil ?_ | ((refine sc_cond rfl ?_ ?_) <;> intro hc <;> (first | exact absurd hc (by decide) | ((try simp only [engHC] at hc) <;> skip))))
  all_goals
    intro w' hS
    exact ⟨(), trivial, rfl, hs.back hup hS trivial⟩
end Go.Proofs.YtmakokbpadmfbaaGreat

/-
  service: what measure computes. No program in sight but for the types of rows.
-/
namespace Go.Proofs.YtmakokbpadmfbaaGreat
open Go.RowKit Eng
set_option linter.unusedVariables false
set_option linter.unusedSimpArgs false
set_option maxHeartbeats 8000000
attribute [local irreducible] SC SQ J Qt Calls Iterates LSub FSub
def lnCmp (x y : Lane) : Int := orF [cmpI x.cl y.cl, cmpI x.fr y.fr, cmpI x.to y.to]
def lnLt (x y : Lane) : Prop := x.cl < y.cl ∨ (x.cl = y.cl ∧ (x.fr < y.fr ∨ (x.fr = y.fr ∧ x.to < y.to)))
instance (x y : Lane) : Decidable (lnLt x y) := by unfold lnLt; exact inferInstance
theorem lnCmp_lt (x y : Lane) : lnCmp x y < 0 ↔ lnLt x y := by
  unfold lnCmp lnLt
  simp only [orF, cmpI]
  (repeat' split) <;> omega
theorem ltS_ln (a b : Lane) : ltS lnCmp a b = decide (lnLt a b) := by
  unfold ltS
  exact decide_eq_decide.2 (lnCmp_lt a b)
theorem lnLt_total {a b : Lane} (h : a ≠ b) : lnLt a b ∨ lnLt b a := by
  unfold lnLt
  have := (lane_eq a b)
  have hne : ¬ (a.cl = b.cl ∧ a.fr = b.fr ∧ a.to = b.to) := fun e => h (this.2 e)
  omega
theorem swo_ln : Go.Sort.SWO (ltS lnCmp) := by
  refine ⟨fun x => ?_, fun x y z h1 h2 => ?_, fun x y z h1 h2 => ?_⟩
  · rw [ltS_ln, decide_eq_false_iff_not]; unfold lnLt; omega
  · rw [ltS_ln, decide_eq_true_eq] at *; unfold lnLt at *; omega
  · rw [ltS_ln, decide_eq_false_iff_not] at *; unfold lnLt at *; omega
/-- The lanes, as they come first. -/
def lnAdd (K : List Lane) (k : Lane) : List Lane := if k ∈ K then K else K ++ [k]
def lanesO (of : Sn → Lane) (s : List Sn) : List Lane := s.foldl (fun K x => lnAdd K (of x)) []
def row0 (k : Lane) : Rw := ⟨k.cl, k.fr, k.to, 0, 0, 0, 0, 0, 0⟩
def rowAt (of : Sn → Lane) (out : Sn → Int) (s : List Sn) (k : Lane) : Rw := s.foldl (fun r x => if of x = k then cntR r (out x) else r) (row0 k)
section
variable {of : Sn → Lane} {out : Sn → Int}
theorem lanesO_snoc (s : List Sn) (x : Sn) : lanesO of (s ++ [x]) = lnAdd (lanesO of s) (of x) := by unfold lanesO; rw [List.foldl_append]; rfl
theorem rowAt_snoc (s : List Sn) (x : Sn) (k : Lane) : rowAt of out (s ++ [x]) k = if of x = k then cntR (rowAt of out s k) (out x) else rowAt of out s k := by unfold rowAt; rw [List.foldl_append]; rfl
theorem snoc_ind {P : List Sn → Prop} (h0 : P []) (h1 : ∀ s x, P s → P (s ++ [x])) (s : List Sn) : P s := by
  have : ∀ n (s : List Sn), s.length = n → P s := by
    intro n
    induction n with
    | zero => intro s hs; rw [List.length_eq_zero_iff.1 hs]; exact h0
    | succ n ih =>
      intro s hs
      have hne : s ≠ [] := fun e => by rw [e] at hs; cases hs
      rw [← List.dropLast_concat_getLast hne]
      exact h1 _ _ (ih _ (by rw [List.length_dropLast, hs]; rfl))
  exact this s.length s rfl
theorem lanesO_nodup (s : List Sn) : (lanesO of s).Nodup := by
  induction s using snoc_ind with
  | h0 => exact List.nodup_nil
  | h1 s x ih =>
    rw [lanesO_snoc]
    unfold lnAdd
    split
    · exact ih
    · rename_i h
      rw [List.nodup_append]
      refine ⟨ih, by simp, fun a ha b hb e => ?_⟩
      rw [List.mem_singleton] at hb
      subst hb
      subst e
      exact h ha
theorem lanesO_mem (s : List Sn) (k : Lane) : k ∈ lanesO of s ↔ ∃ x ∈ s, of x = k := by
  induction s using snoc_ind with
  | h0 => simp [lanesO]
  | h1 s x ih =>
    rw [lanesO_snoc]
    unfold lnAdd
    have e : (∃ y ∈ s ++ [x], of y = k) ↔ (∃ y ∈ s, of y = k) ∨ of x = k := by
      constructor
      · rintro ⟨y, hy, hk⟩
        rcases List.mem_append.1 hy with h | h
        · exact .inl ⟨y, h, hk⟩
        · rw [List.mem_singleton] at h; subst h; exact .inr hk
      · rintro (⟨y, hy, hk⟩ | hk)
        · exact ⟨y, List.mem_append_left _ hy, hk⟩
        · exact ⟨x, by simp, hk⟩
    rw [e, ← ih]
    split
    · rename_i h
      constructor
      · exact .inl
      · rintro (h' | h')
        · exact h'
        · subst h'; exact h
    · rw [List.mem_append, List.mem_singleton]
      exact ⟨fun h => h.imp id Eq.symm, fun h => h.imp id Eq.symm⟩
theorem lanesO_len (s : List Sn) : (lanesO of s).length ≤ s.length := by
  induction s using snoc_ind with
  | h0 => exact Nat.le_refl _
  | h1 s x ih =>
    rw [lanesO_snoc, List.length_append]
    unfold lnAdd
    split
    · exact Nat.le_trans ih (Nat.le_add_right _ _)
    · rw [List.length_append]; exact Nat.add_le_add_right ih 1
theorem rowAt_none {s : List Sn} {k : Lane} (h : k ∉ lanesO of s) : rowAt of out s k = row0 k := by
  rw [lanesO_mem] at h
  unfold rowAt
  generalize row0 k = r
  induction s generalizing r with
  | nil => rfl
  | cons x s ih =>
    simp only [List.foldl_cons]
    rw [if_neg (fun e => h ⟨x, List.mem_cons_self, e⟩)]
    exact ih (fun ⟨y, hy, e⟩ => h ⟨y, List.mem_cons_of_mem _ hy, e⟩) r
theorem cnt_small {r : Rw} {o : Int} {n : Nat} (h : 0 ≤ r.kp ∧ r.kp ≤ r.tr ∧ 0 ≤ r.op ∧ 0 ≤ r.ot ∧ r.tr + r.op + r.ot ≤ n) : 0 ≤ (cntR r o).kp ∧ (cntR r o).kp ≤ (cntR r o).tr ∧ 0 ≤ (cntR r o).op ∧ 0 ≤ (cntR r o).ot ∧ (cntR r o).tr + (cntR r o).op + (cntR r o).ot ≤ ((n + 1 : Nat) : Int) := by
  unfold cntR
  (repeat' split) <;> dsimp only <;> omega
theorem rowAt_small (s : List Sn) (k : Lane) : 0 ≤ (rowAt of out s k).kp ∧ (rowAt of out s k).kp ≤ (rowAt of out s k).tr ∧ 0 ≤ (rowAt of out s k).op ∧ 0 ≤ (rowAt of out s k).ot ∧ (rowAt of out s k).tr + (rowAt of out s k).op + (rowAt of out s k).ot ≤ s.length := by
  induction s using snoc_ind with
  | h0 => unfold rowAt row0; simp
  | h1 s x ih =>
    rw [rowAt_snoc, List.length_append, List.length_singleton]
    split
    · exact cnt_small ih
    · omega
end
/-- The lanes in order. -/
def lnLe (a b : Lane) : Bool := !decide (lnLt b a)
theorem lnLe_iff (a b : Lane) : lnLe a b = true ↔ ¬ lnLt b a := by unfold lnLe; rw [Bool.not_eq_true', decide_eq_false_iff_not]
theorem lnLe_trans (a b c : Lane) (h1 : lnLe a b = true) (h2 : lnLe b c = true) : lnLe a c = true := by
  rw [lnLe_iff] at *
  unfold lnLt at *
  omega
theorem lnLe_total (a b : Lane) : (lnLe a b || lnLe b a) = true := by
  rw [Bool.or_eq_true, lnLe_iff, lnLe_iff]
  unfold lnLt
  omega
def sortL (K : List Lane) : List Lane := K.mergeSort lnLe
theorem sortL_spec {K R : List Lane} (hp : R.Perm K) (hs : R.Pairwise (fun x y => ltS lnCmp y x = false)) (hn : K.Nodup) : R = sortL K := by
  have h1 : (sortL K).Perm K := List.mergeSort_perm K lnLe
  have h2 : (sortL K).Pairwise (fun a b => lnLe a b = true) := List.pairwise_mergeSort lnLe_trans lnLe_total K
  refine (hp.trans h1.symm).eq_of_pairwise (le := fun a b => lnLe a b = true) (fun a b _ _ h3 h4 => ?_) (hs.imp fun {a b} h => ?_) h2
  · apply Classical.byContradiction
    intro hne
    unfold lnLe at h3 h4
    simp only [Bool.not_eq_true', decide_eq_false_iff_not] at h3 h4
    rcases lnLt_total hne with h | h
    · exact h4 h
    · exact h3 h
  · rw [ltS_ln] at h
    unfold lnLe
    rw [h]; rfl
theorem sortL_perm (K : List Lane) : (sortL K).Perm K := List.mergeSort_perm K lnLe
theorem sortL_lt {K : List Lane} (hn : K.Nodup) : (sortL K).Pairwise lnLt := by
  have h2 : (sortL K).Pairwise (fun a b => lnLe a b = true) := List.pairwise_mergeSort lnLe_trans lnLe_total K
  have h3 : (sortL K).Nodup := (sortL_perm K).nodup_iff.2 hn
  refine (h2.and h3).imp fun {a b} h => ?_
  rcases lnLt_total h.2 with h' | h'
  · exact h'
  · have := h.1
    unfold lnLe at this
    rw [decide_eq_true h'] at this
    cases this
/-- What measure answers. -/
def msOk (l : List Sd) (s : List Sn) (now risk : Int) : Prop := sdsB l = true ∧ sentB s = true ∧ timeI now ∧ 1 ≤ risk ∧ risk ≤ 2000
instance (l : List Sd) (s : List Sn) (now risk : Int) : Decidable (msOk l s now risk) := by unfold msOk; exact inferInstance
def msLong (of : Sn → Lane) (l : List Sd) (s : List Sn) (now : Int) : Bool := (sortL (lanesO of s)).any fun k => decide (500 < (rowAt of (fun x => outF l x now) s k).tr)
def msRows (of : Sn → Lane) (l : List Sd) (s : List Sn) (now risk : Int) : List Rw := (sortL (lanesO of s)).map fun k => bndR (rowAt of (fun x => outF l x now) s k) risk
def msF (of : Sn → Lane) (l : List Sd) (s : List Sn) (now risk : Int) : Int × List Rw :=
  if msOk l s now risk then (if msLong of l s now = true then (3, []) else (0, msRows of l s now risk)) else (2, [])
end Go.Proofs.YtmakokbpadmfbaaGreat
