/-
  In one text: Rwt, Lns, Lnn.
-/
import Derived.Test.YtmakokbpadmfbaaGreatRwp
import Derived.Test.YtmakokbpadmfbaaGreatSml
import Derived.Test.YtmakokbpadmfbaaGreatRqu
import Derived.Test.YtmakokbpadmfbaaGreatCl2
import Derived.Test.YtmakokbpadmfbaaGreatEngCoreB
/-
  letterbagref41.Transit.
-/
namespace Go.Proofs.YtmakokbpadmfbaaGreat
open Go.RowKit Eng
set_option linter.unusedVariables false
set_option linter.unusedSimpArgs false
set_option maxHeartbeats 8000000
attribute [local irreducible] SC SQ J Qt Calls Iterates LSub FSub
set_option maxRecDepth 8000 in
set_option maxHeartbeats 16000000 in
theorem rTr_c (B : Option Addr) (bc : Nat) (s : List Sn) (cl fr to now q : Int) (w : World) (hsl : s.length ≤ 300) (hcs : ∀ x ∈ s, 0 ≤ x.cl) (h2 : RS w 6 snC B s) :
    Calls Tryz.prog 65 #[.slice B s.length bc, .int .u8 cl, .int .i64 fr, .int .i64 to, .int .i64 now, .int .i64 q] w fun e w' => e = .returned (.tuple #[.int .i64 (trF s cl fr to now q).1, .int .i64 (trF s cl fr to now q).2]) ∧ Below w.heap.size w w' := by
  have hS := fun w' h' => rSent_c B bc s w' (by omega) hcs h'
  by_cases hok : trOk s now q
  · have hsok := (sentB_ok hok.1).2
    rw [hok.1] at hS
    have hres : trF s cl fr to now q = if (trL s cl fr to now).length = 0 then (0, 6) else (((sortI (trL s cl fr to now))[rank (trL s cl fr to now).length q.toNat]?).getD 0, 0) := if_pos hok
    obtain ⟨⟨ht1, ht2⟩, hq1, hq2⟩ := hok.2
    clear hok
    have hsn := fun i x (hx : s[i]? = some x) => trL_snoc cl fr to now hx
    have hln := fun i => trL_len (s.take i) cl fr to now
    have hall : s.take s.length = s := List.take_length
    have htl : ∀ i, (s.take i).length ≤ i := fun i => by rw [List.length_take]; omega
    obtain ⟨q9, rfl⟩ : ∃ q9 : Nat, q = q9 := ⟨q.toNat, by omega⟩
    rw [Int.toNat_natCast] at hres
    generalize hm : s.length = m at *
    refine eng_start (n := 93) (args := [.slice B m bc, .int .u8 cl, .int .i64 fr, .int .i64 to, .int .i64 now, .int .i64 q9]) tab tab_ok fns fns_ok [.tmp 12, .tmp 13] Tryz.func65 rfl rfl rfl rfl ?_
    repeat' (first | (refine gJ ?_; first | refine js rfl rfl rfl rfl ?_ | (refine gcall rfl rfl ?_; (refine j_qc (f := 82) rfl rfl rfl rfl rfl rfl rfl ?_; refine ⟨_, (fun w' hs => hS w' (h2.st hs)), ?_⟩))) | (refine gSC ?_; first | refine sc_mv rfl ?_ | refine sc_q rfl ?_ | refine sc_region ?_) | (refine gSQ ?_; refine sq_go rfl ?_) | refine j_nil ?_ | ((first | refine j_guard rfl rfl rfl rfl rfl ?_ ?_ | refine sc_cond rfl ?_ ?_) <;> intro hc <;> (first | exact absurd hc (by decide) | ((try simp only [engHC] at hc) <;> first | (exfalso; omega) | skip))))
    refine sc_own_nil_at 3 1 ?_
    refine sc_loop (ι := Nat × Value) (fun i => i.1 ≤ m) (fun i => m - i.1) (fun i => [(0, .slice B m bc), (1, .int .u8 cl), (2, .int .i64 fr), (3, .int .i64 to), (4, .int .i64 now), (5, .int .i64 q9), (14, i.2), (15, .int .i64 i.1)]) (fun i => [.own i.2 3 1 (trL (s.take i.1) cl fr to now).length ((trL (s.take i.1) cl fr to now).flatMap intC)]) (0, .slice none 0 0) (Nat.zero_le _) (by (try dsimp only); exact (by repeat (first | exact FSub.nil | refine FSub.cons rfl ?_ | refine FSub.conse rfl (by congr 1; omega) ?_))) (by repeat (first | exact LSub.refl | refine LSub.cons (by repeat (first | exact Rem.here | apply Rem.there)) ?_ | apply LSub.skip)) ?_
    rintro ⟨i, v0⟩ hi
    dsimp only at hi ⊢
    by_cases hlt : i < m
    · obtain ⟨x, hx⟩ : ∃ x, s[i]? = some x := ⟨_, List.getElem?_eq_getElem (by omega)⟩
      obtain ⟨ad, rfl, hX⟩ := h2 i x hx
      have hxok := hsok x (List.mem_of_getElem? hx)
      unfold okSn at hxok
      have e1 := hsn i x hx
      have hl1 : (trL (s.take i) cl fr to now).length ≤ 2000 := by have := hln i; have := htl i; omega
      have hD := fun w' => by_c x now w'
      have hdd : delB x now = true → x.de ≠ -1 := fun h9 => by unfold delB at h9; exact (of_decide_eq_true h9).1
      unfold trSel at e1
      clear hsn hln hall htl hS hsok
      by_cases hq3 : x.cl = cl ∧ x.fr = fr ∧ x.to = to
      · rw [decide_eq_true hq3, Bool.true_and] at e1
        cases hdb : delB x now
        · rw [hdb] at e1 hD
          rw [if_neg (by decide), List.append_nil] at e1
          repeat' (first | (refine gJ ?_; first | refine js rfl rfl rfl rfl ?_ | (refine gload rfl rfl ?_; refine j_qe rfl rfl rfl ?_; first | refine ⟨_, q_loadA_ext rfl rfl rfl rfl ⟨by assumption, (by first | exact id | assumption)⟩ (by rfl), ?_⟩ | refine ⟨_, q_load_ext rfl rfl rfl rfl ⟨by assumption, (by first | exact id | assumption)⟩ (by first | rfl | assumption), ?_⟩) | refine jar rfl rfl rfl rfl rfl rfl rfl (by omega) ?_ | (refine gcall rfl rfl ?_; (refine j_qc (f := 91) rfl rfl rfl rfl rfl rfl rfl ?_; refine ⟨_, (fun w' _ => hD w'), ?_⟩)) | (refine j_qe rfl rfl rfl ?_; first | refine ⟨_, q_index_nat rfl rfl rfl rfl rfl (by omega), ?_⟩ | refine ⟨_, q_len_slice rfl rfl rfl rfl, ?_⟩ | refine ⟨_, q_field_ext rfl rfl rfl rfl rfl, ?_⟩)) | (refine gSC ?_; first | refine sc_mv rfl ?_ | refine sc_q rfl ?_ | refine sc_region ?_) | (refine gSQ ?_; first | refine sq_go rfl ?_ | refine sq_mv rfl ?_) | refine j_nil ?_ | ((first | refine j_guard rfl rfl rfl rfl rfl ?_ ?_ | refine sc_cond rfl ?_ ?_) <;> intro hc <;> (first | exact absurd hc (by decide) | ((try simp only [engHC] at hc) <;> first | (exfalso; omega) | skip))))
          all_goals exact sq_loop (i + 1, v0) (by show i + 1 ≤ m; omega) (by show m - (i + 1) < m - i; omega) (by (try dsimp only); exact (by repeat (first | exact FSub.nil | refine FSub.cons rfl ?_ | refine FSub.conse rfl (by congr 1; omega) ?_))) (by dsimp only; rw [e1]; exact (by repeat (first | exact LSub.refl | refine LSub.cons (by repeat (first | exact Rem.here | apply Rem.there)) ?_ | apply LSub.skip)))
        · have hde := hdd hdb
          rw [hdb] at e1 hD
          rw [if_pos rfl] at e1
          repeat' (first | (refine gJ ?_; first | refine js rfl rfl rfl rfl ?_ | (refine gload rfl rfl ?_; refine j_qe rfl rfl rfl ?_; first | refine ⟨_, q_loadA_ext rfl rfl rfl rfl ⟨by assumption, (by first | exact id | assumption)⟩ (by rfl), ?_⟩ | refine ⟨_, q_load_ext rfl rfl rfl rfl ⟨by assumption, (by first | exact id | assumption)⟩ (by first | rfl | assumption), ?_⟩) | refine jar rfl rfl rfl rfl rfl rfl rfl (by omega) ?_ | (refine gcall rfl rfl ?_; (refine j_qc (f := 91) rfl rfl rfl rfl rfl rfl rfl ?_; refine ⟨_, (fun w' _ => hD w'), ?_⟩)) | (refine gF ?_; refine j_append rfl rfl rfl rfl rfl rfl rfl rfl rfl rfl rfl (by (repeat constructor)) (by (repeat constructor)) (by rfl) (by rfl) (by omega) (fun _ => by (repeat constructor)) ?_; intro v9) | (refine gF ?_; (refine j_buildSlice rfl rfl rfl rfl rfl rfl rfl rfl rfl rfl rfl rfl ?_; intro b)) | (refine j_qe rfl rfl rfl ?_; first | refine ⟨_, q_index_nat rfl rfl rfl rfl rfl (by omega), ?_⟩ | refine ⟨_, q_len_slice rfl rfl rfl rfl, ?_⟩ | refine ⟨_, q_field_ext rfl rfl rfl rfl rfl, ?_⟩)) | (refine gSC ?_; first | refine sc_mv rfl ?_ | refine sc_q rfl ?_ | refine sc_region ?_ | refine sc_autoR 8 (.own v0 3 1 _ _) (.q 0 (.q 1 (.q 2 (.q 3 (.q 4 (.q 5 (.q 6 (.q 7 (.q 8 (.q 9 (.q 10 (.q 11 (.e 12 (.e 13 (.q 14 (.z)))))))))))))))) (by repeat (first | exact Rem.here | apply Rem.there)) mixed ?_) | (refine gJG ?_; first | refine jg_q rfl (by kernel_rfl) ?_ | refine jg_e (by kernel_rfl) rfl ?_ | refine jg_done (by kernel_rfl) ?_) | (refine gSQ ?_; first | refine jg_next ?_ | (refine gFE ?_; first | refine jg_next1 ?_ | refine jg_nextE (by first | exact LSub.refl | (repeat (first | exact LSub.refl | refine LSub.cons (by repeat (first | exact Rem.here | apply Rem.there)) ?_ | apply LSub.skip))) ?_) | refine sq_go rfl ?_ | refine sq_mv rfl ?_) | refine j_nil ?_ | ((first | refine j_guard rfl rfl rfl rfl rfl ?_ ?_ | refine sc_cond rfl ?_ ?_) <;> intro hc <;> (first | exact absurd hc (by decide) | ((try simp only [engHC] at hc) <;> first | (exfalso; omega) | skip))))
          all_goals
            refine sq_loop (i + 1, v9) (by show i + 1 ≤ m; omega) (by show m - (i + 1) < m - i; omega) (by (try dsimp only); exact (by repeat (first | exact FSub.nil | refine FSub.cons rfl ?_ | refine FSub.conse rfl (by congr 1; omega) ?_))) ?_
            dsimp only
            rw [e1, List.length_append, List.flatMap_append]
            exact (by repeat (first | exact LSub.refl | refine LSub.cons (by repeat (first | exact Rem.here | apply Rem.there)) ?_ | apply LSub.skip))
      · rw [decide_eq_false hq3, Bool.false_and, if_neg (by decide), List.append_nil] at e1
        repeat' (first | (refine gJ ?_; first | refine js rfl rfl rfl rfl ?_ | (refine gload rfl rfl ?_; refine j_qe rfl rfl rfl ?_; refine ⟨_, q_load_ext rfl rfl rfl rfl ⟨by assumption, (by first | exact id | assumption)⟩ (by first | rfl | assumption), ?_⟩) | refine jar rfl rfl rfl rfl rfl rfl rfl (by omega) ?_ | (refine j_qe rfl rfl rfl ?_; first | refine ⟨_, q_index_nat rfl rfl rfl rfl rfl (by omega), ?_⟩ | refine ⟨_, q_len_slice rfl rfl rfl rfl, ?_⟩ | refine ⟨_, q_field_ext rfl rfl rfl rfl rfl, ?_⟩)) | (refine gSC ?_; first | refine sc_mv rfl ?_ | refine sc_q rfl ?_ | refine sc_region ?_) | (refine gSQ ?_; first | refine sq_go rfl ?_ | refine sq_mv rfl ?_) | refine j_nil ?_ | ((first | refine j_guard rfl rfl rfl rfl rfl ?_ ?_ | refine sc_cond rfl ?_ ?_) <;> intro hc <;> (first | exact absurd hc (by decide) | ((try simp only [engHC] at hc) <;> first | (exfalso; omega) | skip))))
        all_goals exact sq_loop (i + 1, v0) (by show i + 1 ≤ m; omega) (by show m - (i + 1) < m - i; omega) (by (try dsimp only); exact (by repeat (first | exact FSub.nil | refine FSub.cons rfl ?_ | refine FSub.conse rfl (by congr 1; omega) ?_))) (by dsimp only; rw [e1]; exact (by repeat (first | exact LSub.refl | refine LSub.cons (by repeat (first | exact Rem.here | apply Rem.there)) ?_ | apply LSub.skip)))
    · have him : i = m := by omega
      subst him
      have hl1 : (trL s cl fr to now).length ≤ 300 := by have := hln i; rw [hall, hm] at this; omega
      rw [hall]
      generalize trL s cl fr to now = T at *
      refine sc_owns (v := v0) (by (repeat constructor)) ?_
      rintro A0 c0 rfl hs0
      by_cases hT0 : T.length = 0
      · rw [if_pos hT0] at hres
        rw [hres]
        have hqe := fun w' => rquant_e A0 c0 T q9 w' (by omega) (.inr (.inr hT0))
        rw [show quantF T q9 = (0, 6) from by unfold quantF; rw [if_neg (by omega), if_neg (by omega), if_pos hT0]] at hqe
        repeat' (first | (refine gJ ?_; first | refine js rfl rfl rfl rfl ?_ | (refine gcall rfl rfl ?_; (refine j_qc (f := 92) rfl rfl rfl rfl rfl rfl rfl ?_; refine ⟨_, (fun w' _ => hqe w'), ?_⟩)) | (refine j_qe rfl rfl rfl ?_; refine ⟨_, q_len_slice rfl rfl rfl rfl, ?_⟩)) | (refine gSC ?_; first | refine sc_mv rfl ?_ | refine sc_q rfl ?_ | refine sc_region ?_) | (refine gSQ ?_; first | refine sq_go rfl ?_ | refine sq_mv rfl ?_ | refine sq_ende (by first | exact .inl rfl | exact .inr rfl) rfl rfl ⟨_, (RVs.cons (RV.tmp rfl) (RVs.cons (RV.tmp rfl) (RVs.nil))), ?_⟩) | refine j_nil ?_ | ((refine sc_cond rfl ?_ ?_) <;> intro hc <;> (((try simp only [engHC] at hc) <;> first | (exfalso; omega) | skip))))
        (intro w' hS; refine ⟨?_, hS.below⟩; simp only [pack])
      · rw [if_neg hT0] at hres
        obtain ⟨x, hx⟩ : ∃ x, (sortI T)[rank T.length q9]? = some x := ⟨_, List.getElem?_eq_getElem (by rw [(sortI_perm T).length_eq]; exact rank_lt (by omega) (by omega))⟩
        rw [hx, Option.getD_some] at hres
        rw [hres]
        have hqc := fun w' h => rquant_c A0 c0 T q9 x w' hl1 (by omega) (by omega) h hx
        repeat' (first | (refine gJ ?_; first | refine js rfl rfl rfl rfl ?_ | (refine gcall rfl rfl ?_; (refine j_qc (f := 92) rfl rfl rfl rfl rfl rfl rfl ?_; refine ⟨_, (fun w' hs => hqc w' (rs_own (f := intC) (fun _ => rfl) hs (by (repeat constructor)) rfl rfl)), ?_⟩)) | (refine j_qe rfl rfl rfl ?_; refine ⟨_, q_len_slice rfl rfl rfl rfl, ?_⟩)) | (refine gSC ?_; first | refine sc_mv rfl ?_ | refine sc_q rfl ?_ | refine sc_region ?_) | (refine gSQ ?_; first | refine sq_go rfl ?_ | refine sq_mv rfl ?_ | refine sq_ende (by first | exact .inl rfl | exact .inr rfl) rfl rfl ⟨_, (RVs.cons (RV.tmp rfl) (RVs.cons (RV.tmp rfl) (RVs.nil))), ?_⟩) | refine j_nil ?_ | ((refine sc_cond rfl ?_ ?_) <;> intro hc <;> (((try simp only [engHC] at hc) <;> first | (exfalso; omega) | skip))))
        (intro w' hS; refine ⟨?_, hS.below⟩; simp only [pack])
  · have e : trF s cl fr to now q = (0, 2) := if_neg hok
    rw [e]
    unfold trOk at hok
    generalize sentB s = S at *
    generalize hm : s.length = m at *
    refine eng_start (n := 93) (args := [.slice B m bc, .int .u8 cl, .int .i64 fr, .int .i64 to, .int .i64 now, .int .i64 q]) tab tab_ok fns fns_ok [.tmp 12, .tmp 13] Tryz.func65 rfl rfl rfl rfl ?_
    cases S <;> by_cases ht : timeI now
    all_goals
      simp only [ht, true_and, false_and, and_true, and_false, not_true_eq_false, not_false_eq_true, Bool.false_eq_true] at hok
      unfold timeI at ht
      repeat' (first | (refine gJ ?_; first | refine js rfl rfl rfl rfl ?_ | (refine gcall rfl rfl ?_; (refine j_qc (f := 82) rfl rfl rfl rfl rfl rfl rfl ?_; refine ⟨_, (fun w' hs => hS w' (h2.st hs)), ?_⟩))) | (refine gSC ?_; first | refine sc_mv rfl ?_ | refine sc_q rfl ?_ | refine sc_region ?_) | (refine gSQ ?_; first | refine sq_go rfl ?_ | refine sq_mv rfl ?_ | refine sq_ende (by first | exact .inl rfl | exact .inr rfl) rfl rfl ⟨_, (RVs.cons (RV.tmp rfl) (RVs.cons (RV.tmp rfl) (RVs.nil))), ?_⟩) | refine j_nil ?_ | ((first | refine j_guard rfl rfl rfl rfl rfl ?_ ?_ | refine sc_cond rfl ?_ ?_) <;> intro hc <;> (first | exact absurd hc (by decide) | ((try simp only [engHC] at hc) <;> first | (exfalso; omega) | skip))))
      all_goals first
        | (exfalso; omega)
        | (intro w' hS; refine ⟨?_, hS.below⟩; simp only [pack])
end Go.Proofs.YtmakokbpadmfbaaGreat

/-
  letterbagkit: memory lent of a type, and whether it was kept (Lent.., Kept.. of type 43).
-/
namespace Go.Proofs.YtmakokbpadmfbaaGreat
open Go.RowKit Eng
set_option linter.unusedVariables false
set_option linter.unusedSimpArgs false
set_option maxHeartbeats 8000000
attribute [local irreducible] SC SQ J Qt Calls Iterates LSub FSub
theorem mark_c (k i : Int) (w : World) (hk : 0 ≤ k ∧ k ≤ 2) (hi : 0 ≤ i ∧ i ≤ 100000) : Calls Tryz.prog 99 #[.int .i64 k, .int .i64 i] w fun e w' => e = .returned (.int .i64 (1000003 * (k + 7) + i)) ∧ Below w.heap.size w w' := by
  refine eng_start (n := 10) (args := [.int .i64 k, .int .i64 i]) tab tab_ok fns fns_ok [.tmp 4] Tryz.func99 rfl rfl rfl rfl ?_
  repeat' (first | (refine gJ ?_; first | refine js rfl rfl rfl rfl ?_ | refine jar rfl rfl rfl rfl rfl rfl rfl (by omega) ?_) | (refine gSC ?_; first | refine sc_mv rfl ?_ | refine sc_q rfl ?_ | refine sc_region ?_) | (refine gSQ ?_; first | refine sq_go rfl ?_ | refine sq_ende (by first | exact .inl rfl | exact .inr rfl) rfl rfl ⟨_, (RVs.cons (RV.tmp rfl) (RVs.nil)), ?_⟩) | refine j_nil ?_)
  (intro w' hS; refine ⟨?_, hS.below⟩; simp only [pack])
theorem T_eq (a b : Sd) : a = b ↔ a.cl = b.cl ∧ a.fr = b.fr ∧ a.to = b.to ∧ a.mi = b.mi := by
  cases a; cases b; simp
instance : DecidableEq Sd := fun a b => decidable_of_iff _ (T_eq a b).symm
theorem eqm43 : Tryz.prog.eqGuardType Tryz.prog.depth 43 = false := by kernel_rfl
theorem eq43 (a b : Sd) (w : World) : (Op.equalIn 10000 43 (sdV a) (sdV b)).run Tryz.prog w = .ok (decide (a = b)) w := by
  have u3 := Tryz.underlying3
  have a3 := Tryz.isAgg3
  have z3 := Tryz.sizeOf3
  have u5 := Tryz.underlying5
  have a5 := Tryz.isAgg5
  have z5 := Tryz.sizeOf5
  rw [run_equalIn_agg w 9999 43 _ _ (by kernel_rfl) (by kernel_rfl)]
  simp only [Program.fieldsOf, Tryz.underlying43]
  go_simp
  have e : decide (a = b) = decide (a.cl = b.cl ∧ a.fr = b.fr ∧ a.to = b.to ∧ a.mi = b.mi) := decide_eq_decide.2 (T_eq a b)
  rw [e]
  by_cases h0 : a.cl = b.cl <;> by_cases h1 : a.fr = b.fr <;> by_cases h2 : a.to = b.to <;> by_cases h3 : a.mi = b.mi <;> simp [h0, h1, h2, h3]
theorem eq43r (a : Sd) (w : World) : (Op.equalIn 10000 43 (sdV a) (sdV a)).run Tryz.prog w = .ok true w := by rw [eq43, decide_eq_true rfl]
def mkT (k i : Int) : Sd := ⟨0, 0, 0, 1000003 * (k + 7) + i⟩
def mksT (k : Int) : Nat → List Sd
  | 0 => []
  | n + 1 => mksT k n ++ [mkT k n]
theorem mksT_len (k : Int) : ∀ n, (mksT k n).length = n
  | 0 => rfl
  | n + 1 => by simp [mksT, mksT_len k n]
theorem mksT_get (k : Int) : ∀ n i, i < n → (mksT k n)[i]? = some (mkT k i)
  | 0, i, h => by omega
  | n + 1, i, h => by
    simp only [mksT]
    by_cases hi : i < n
    · rw [List.getElem?_append_left (by rw [mksT_len]; exact hi), mksT_get k n i hi]
    · have : i = n := by omega
      subst this
      rw [List.getElem?_append_right (by rw [mksT_len]; omega), mksT_len, Nat.sub_self]
      rfl
theorem markT_c (k i : Int) (w : World) (hk : 0 ≤ k ∧ k ≤ 2) (hi : 0 ≤ i ∧ i ≤ 100000) : Calls Tryz.prog 80 #[.int .i64 k, .int .i64 i] w fun e w' => e = .returned (sdV (mkT k i)) ∧ Below w.heap.size w w' := by
  refine eng_start (n := 9) (args := [.int .i64 k, .int .i64 i]) tab tab_ok fns fns_ok [.cell 4 43] Tryz.func80 rfl rfl rfl rfl ?_
  repeat' (first | (refine gJ ?_; first | refine js rfl rfl rfl rfl ?_ | (refine gcall rfl rfl ?_; (refine j_qc (f := 99) rfl rfl rfl rfl rfl rfl rfl ?_; refine ⟨_, (fun w' _ => mark_c k i w' hk hi), ?_⟩)) | (refine gF ?_; first | refine j_store rfl rfl rfl rfl rfl rfl rfl rfl (by (repeat constructor)) (by rfl) ?_ | (refine j_alloc rfl rfl rfl rfl rfl ?_; intro b)) | (refine j_qe rfl rfl rfl ?_; refine ⟨_, q_build_struct rfl rfl rfl rfl rfl, ?_⟩)) | (refine gSC ?_; first | refine sc_mv rfl ?_ | refine sc_q rfl ?_ | refine sc_region ?_) | (refine gSQ ?_; first | refine sq_go rfl ?_ | refine sq_ende (by first | exact .inl rfl | exact .inr rfl) rfl rfl ⟨_, (RVs.cons (by first | exact RV.cell rfl rfl rfl (by (repeat constructor)) (by rfl) | exact RV.cellA rfl rfl rfl (by (repeat constructor)) (by rfl)) (RVs.nil)), ?_⟩) | refine j_nil ?_)
  (intro w' hS; refine ⟨?_, hS.below⟩; simp only [pack])
  rfl
theorem lentT_c (A : Option Addr) (c : Nat) (l : List Sd) (w : World) (hl : l.length ≤ 2000) (hs : Sl A l.length c) (h : RS w 4 sdC A l) :
    Calls Tryz.prog 51 #[.slice A l.length c] w fun e w' => ∃ x : Addr × Nat, l.length + 12 ≤ x.2 ∧ e = .returned (.slice (some x.1) l.length x.2) ∧ St w Cold [.own (.slice (some x.1) (l.length + 12) x.2) 43 4 (l.length + 12) ((l ++ mksT 1 12).flatMap sdC)] w' := by
  have hre := fun w' (h : RS w' 4 sdC A l) => reads_ext (f := sdC) (sz := 4) (fun _ => rfl) (fun _ => rfl) h (fun e => ⟨List.length_eq_zero_iff.1 (hs.nil e).1, (hs.nil e).2⟩)
  obtain ⟨n, hn⟩ : ∃ n, l.length = n := ⟨_, rfl⟩
  rw [hn] at hre hl ⊢
  refine eng_start (n := 25) (args := [.slice A n c]) tab tab_ok fns fns_ok [.tmp 2] Tryz.func51 rfl rfl rfl rfl ?_
  repeat' (first | (refine gJ ?_; first | refine js rfl rfl rfl rfl ?_ | refine jar rfl rfl rfl rfl rfl rfl rfl (by omega) ?_ | (refine gF ?_; refine j_make0 rfl rfl rfl rfl rfl rfl rfl rfl rfl ⟨by omega, by omega⟩ ?_; intro b1) | (refine gF ?_; refine j_appendS (cs := l.flatMap sdC) (n := 0) (A := A) (k := n) (c := c) rfl rfl rfl rfl rfl rfl rfl rfl rfl rfl rfl (fun w' hs => hre w' (h.st hs)) (by (repeat constructor)) (by omega) (fun _ => by (repeat constructor)) ?_; intro v9) | (refine j_qe rfl rfl rfl ?_; refine ⟨_, q_len_slice rfl rfl rfl rfl, ?_⟩)) | (refine gSC ?_; first | refine sc_mv rfl ?_ | refine sc_region ?_) | (refine gSQ ?_; refine sq_go rfl ?_) | refine j_nil ?_)
  refine sc_loop (ι := Nat × Value) (fun i => i.1 ≤ 12) (fun i => 12 - i.1) (fun i => [(0, .slice A n c), (3, i.2), (4, .int .i64 i.1)]) (fun i => [.own i.2 43 4 (n + i.1) ((l ++ mksT 1 i.1).flatMap sdC)]) (0, v9) (Nat.zero_le _) (by repeat (first | exact FSub.nil | refine FSub.cons rfl ?_ | refine FSub.conse rfl (by congr 1; omega) ?_)) ?_ ?_
  · dsimp only
    rw [show mksT 1 0 = [] from rfl, List.append_nil, Nat.add_zero]
    have e1 : HA.own v9 43 4 (0 + n) ([] ++ l.flatMap sdC) = .own v9 43 4 n (l.flatMap sdC) := by rw [Nat.zero_add, List.nil_append]
    rw [← e1]
    exact (by repeat (first | exact LSub.nil | refine LSub.cons (by repeat (first | exact Rem.here | apply Rem.there)) ?_))
  rintro ⟨i, v0⟩ hi
  dsimp only at hi ⊢
  by_cases hlt : i < 12
  · have e1 : (l ++ mksT 1 i).flatMap sdC ++ sdC (mkT 1 i) = (l ++ mksT 1 (i + 1)).flatMap sdC := by
      simp only [mksT]
      rw [← List.append_assoc, List.flatMap_append (xs := l ++ mksT 1 i)]
      simp
    repeat' (first | (refine gJ ?_; first | refine js rfl rfl rfl rfl ?_ | refine jar rfl rfl rfl rfl rfl rfl rfl (by omega) ?_ | (refine gcall rfl rfl ?_; (refine j_qc (f := 80) rfl rfl rfl rfl rfl rfl rfl ?_; refine ⟨_, (fun w' _ => markT_c 1 i w' (by omega) (by omega)), ?_⟩)) | (refine gF ?_; refine j_append (xs := (l ++ mksT 1 i).flatMap sdC) rfl rfl rfl rfl rfl rfl rfl rfl rfl rfl rfl (by (repeat constructor)) (by (repeat constructor)) (by rfl) (by rfl) (by omega) (fun _ => by (repeat constructor)) ?_; intro v) | (refine gF ?_; (refine j_buildSlice rfl rfl rfl rfl rfl rfl rfl rfl rfl rfl rfl rfl ?_; intro b))) | (refine gSC ?_; first | refine sc_mv rfl ?_ | refine sc_q rfl ?_ | refine sc_region ?_) | (refine gSQ ?_; first | refine sq_go rfl ?_ | refine sq_mv rfl ?_) | refine j_nil ?_ | ((refine sc_cond rfl ?_ ?_) <;> intro hc <;> (((try simp only [engHC] at hc) <;> first | (exfalso; omega) | skip))))
    refine sq_loop (i + 1, v) (by show i + 1 ≤ 12; omega) (by show 12 - (i + 1) < 12 - i; omega) (by repeat (first | exact FSub.nil | refine FSub.cons rfl ?_ | refine FSub.conse rfl (by congr 1; omega) ?_)) ?_
    dsimp only
    rw [← e1]
    exact (by repeat (first | exact LSub.refl | refine LSub.cons (by repeat (first | exact Rem.here | apply Rem.there)) ?_ | apply LSub.skip))
  · obtain rfl : i = 12 := by omega
    refine sc_ownq (v := v0) (by (repeat constructor)) (by omega) ?_
    rintro ad c2 rfl hc2
    repeat' (first | (refine gJ ?_; first | refine js rfl rfl rfl rfl ?_ | (refine j_qe rfl rfl rfl ?_; refine ⟨_, q_sliceHi n rfl rfl rfl rfl rfl (by omega), ?_⟩) | (refine j_qe rfl rfl rfl ?_; refine ⟨_, q_len_slice rfl rfl rfl rfl, ?_⟩)) | (refine gSC ?_; first | refine sc_mv rfl ?_ | refine sc_q rfl ?_ | refine sc_region ?_) | (refine gSQ ?_; first | refine sq_go rfl ?_ | refine sq_mv rfl ?_ | refine sq_ende (by first | exact .inl rfl | exact .inr rfl) rfl rfl ⟨_, (RVs.cons (RV.tmp rfl) (RVs.nil)), ?_⟩) | refine j_nil ?_ | ((refine sc_cond rfl ?_ ?_) <;> intro hc <;> (first | exact absurd hc (by decide) | ((try simp only [engHC] at hc) <;> skip))))
    intro w' hS
    exact ⟨(ad, c2), hc2, rfl, hS⟩
theorem keptT_c (ad : Addr) (c2 : Nat) (A : Option Addr) (c : Nat) (l : List Sd) (w : World) (hl : l.length ≤ 2000) (hc : l.length + 12 ≤ c2) (hL : RS w 4 sdC (some ad) (l ++ mksT 1 12)) (h : RS w 4 sdC A l) :
    Calls Tryz.prog 54 #[.slice (some ad) l.length c2, .slice A l.length c] w fun e w' => e = .returned (.bool true) ∧ Below w.heap.size w w' := by
  have hg : ∀ k, k < l.length → (l ++ mksT 1 12)[k]? = l[k]? := fun k hk => List.getElem?_append_left hk
  have hm : ∀ k, l.length ≤ k → k < l.length + 12 → (l ++ mksT 1 12)[k]? = some (mkT 1 ((k - l.length : Nat) : Int)) := fun k h1 h2 => by rw [List.getElem?_append_right h1]; exact mksT_get _ _ _ (by omega)
  obtain ⟨n, hn⟩ : ∃ n, l.length = n := ⟨_, rfl⟩
  rw [hn] at hl hc hg hm ⊢
  refine eng_start (n := 58) (args := [.slice (some ad) n c2, .slice A n c]) tab tab_ok fns fns_ok [.tmp 4] Tryz.func54 rfl rfl rfl rfl ?_
  repeat' (first | (refine gJ ?_; first | refine js rfl rfl rfl rfl ?_ | refine jar rfl rfl rfl rfl rfl rfl rfl (by omega) ?_ | (refine j_qe rfl rfl rfl ?_; refine ⟨_, q_sliceHi (n + 12) rfl rfl rfl rfl rfl (by omega), ?_⟩) | (refine j_qe rfl rfl rfl ?_; refine ⟨_, q_len_slice rfl rfl rfl rfl, ?_⟩)) | (refine gSC ?_; first | refine sc_mv rfl ?_ | refine sc_q rfl ?_ | refine sc_region ?_) | (refine gSQ ?_; refine sq_go rfl ?_) | refine j_nil ?_ | ((refine sc_cond rfl ?_ ?_) <;> intro hc <;> (((try simp only [engHC] at hc) <;> first | exact absurd trivial hc | skip))))
  refine sc_loop (ι := Nat) (fun k => k ≤ n + 12) (fun k => n + 12 - k) (fun k => [(1, .slice A n c), (5, .slice (some ad) (n + 12) c2), (6, .int .i64 k)]) (fun _ => []) 0 (Nat.zero_le _) (by repeat (first | exact FSub.nil | refine FSub.cons rfl ?_ | refine FSub.conse rfl (by congr 1; omega) ?_)) (by repeat (first | exact LSub.nil | refine LSub.cons (by repeat (first | exact Rem.here | apply Rem.there)) ?_)) ?_
  intro k hk
  by_cases hlt : k < n
  · obtain ⟨x, hx⟩ : ∃ x, l[k]? = some x := ⟨_, List.getElem?_eq_getElem (by omega)⟩
    obtain ⟨ad1, e1, hX⟩ := hL k x (by rw [hg k hlt]; exact hx)
    obtain rfl : ad = ad1 := by injection e1
    obtain ⟨ad2, rfl, hY⟩ := h k x hx
    repeat' (first | (refine gJ ?_; first | refine js rfl rfl rfl rfl ?_ | (refine gload rfl rfl ?_; refine j_qe rfl rfl rfl ?_; refine ⟨_, q_loadA_ext rfl rfl rfl rfl ⟨by assumption, (by first | exact id | assumption)⟩ (by rfl), ?_⟩) | refine jar rfl rfl rfl rfl rfl rfl rfl (by omega) ?_ | (refine j_qe rfl rfl rfl ?_; refine ⟨_, q_eqS rfl eqm43 rfl rfl (eq43r x), ?_⟩) | (refine j_qe rfl rfl rfl ?_; first | refine ⟨_, q_index_nat rfl rfl rfl rfl rfl (by omega), ?_⟩ | refine ⟨_, q_len_slice rfl rfl rfl rfl, ?_⟩)) | (refine gSC ?_; first | refine sc_mv rfl ?_ | refine sc_q rfl ?_ | refine sc_region ?_ | refine sc_draw rfl mixed (by kernel_rfl) ?_) | (refine gSQ ?_; first | refine sq_go rfl ?_ | refine sq_mv rfl ?_) | refine j_nil ?_ | ((first | refine j_guard rfl rfl rfl rfl rfl ?_ ?_ | refine sc_cond rfl ?_ ?_) <;> intro hc <;> (first | exact absurd hc (by decide) | ((try simp only [engHC] at hc) <;> first | (exfalso; omega) | skip))))
    exact sq_loop (k + 1) (by omega) (by omega) (by repeat (first | exact FSub.nil | refine FSub.cons rfl ?_ | refine FSub.conse rfl (by congr 1; omega) ?_)) (by repeat (first | exact LSub.nil | refine LSub.cons (by repeat (first | exact Rem.here | apply Rem.there)) ?_))
  · by_cases hlt2 : k < n + 12
    · obtain ⟨j, rfl⟩ : ∃ j, k = n + j := ⟨k - n, by omega⟩
      have hmk := hm (n + j) (by omega) hlt2
      rw [Nat.add_sub_cancel_left] at hmk
      obtain ⟨ad1, e1, hX⟩ := hL (n + j) _ hmk
      obtain rfl : ad = ad1 := by injection e1
      have hmc := fun w' => markT_c 1 j w' (by omega) (by omega)
      have ej : (((n + j : Nat) : Int) - (n : Int)) = (j : Int) := by omega
      rw [← ej] at hmc
      rw [← ej] at hX
      repeat' (first | (refine gJ ?_; first | refine js rfl rfl rfl rfl ?_ | (refine gload rfl rfl ?_; refine j_qe rfl rfl rfl ?_; refine ⟨_, q_loadA_ext rfl rfl rfl rfl ⟨by assumption, (by first | exact id | assumption)⟩ (by rfl), ?_⟩) | refine jar rfl rfl rfl rfl rfl rfl rfl (by omega) ?_ | (refine gcall rfl rfl ?_; (refine j_qc (f := 80) rfl rfl rfl rfl rfl rfl rfl ?_; refine ⟨_, (fun w' _ => hmc w'), ?_⟩)) | (refine j_qe rfl rfl rfl ?_; refine ⟨_, q_eqS rfl eqm43 rfl rfl (eq43r (mkT 1 (((n + j : Nat) : Int) - (n : Int)))), ?_⟩) | (refine j_qe rfl rfl rfl ?_; first | refine ⟨_, q_index_nat rfl rfl rfl rfl rfl (by omega), ?_⟩ | refine ⟨_, q_len_slice rfl rfl rfl rfl, ?_⟩)) | (refine gSC ?_; first | refine sc_mv rfl ?_ | refine sc_q rfl ?_ | refine sc_region ?_ | refine sc_draw rfl mixed (by kernel_rfl) ?_) | (refine gSQ ?_; first | refine sq_go rfl ?_ | refine sq_mv rfl ?_) | refine j_nil ?_ | ((first | refine j_guard rfl rfl rfl rfl rfl ?_ ?_ | refine sc_cond rfl ?_ ?_) <;> intro hc <;> (first | exact absurd hc (by decide) | ((try simp only [engHC] at hc) <;> first | (exfalso; omega) | skip))))
      exact sq_loop (n + j + 1) (by omega) (by omega) (by repeat (first | exact FSub.nil | refine FSub.cons rfl ?_ | refine FSub.conse rfl (by congr 1; omega) ?_)) (by repeat (first | exact LSub.nil | refine LSub.cons (by repeat (first | exact Rem.here | apply Rem.there)) ?_))
    · repeat' (first | (refine gJ ?_; first | refine js rfl rfl rfl rfl ?_ | (refine j_qe rfl rfl rfl ?_; refine ⟨_, q_len_slice rfl rfl rfl rfl, ?_⟩)) | (refine gSC ?_; first | refine sc_mv rfl ?_ | refine sc_q rfl ?_ | refine sc_region ?_) | (refine gSQ ?_; first | refine sq_go rfl ?_ | refine sq_mv rfl ?_ | refine sq_ende (by first | exact .inl rfl | exact .inr rfl) rfl rfl ⟨_, (RVs.cons (RV.tmp rfl) (RVs.nil)), ?_⟩) | refine j_nil ?_ | ((refine sc_cond rfl ?_ ?_) <;> intro hc <;> (((try simp only [engHC] at hc) <;> first | (exfalso; omega) | skip))))
      (intro w' hS; refine ⟨?_, hS.below⟩; simp only [pack])
end Go.Proofs.YtmakokbpadmfbaaGreat

/-
  letterbagkit: memory lent of a type, and whether it was kept (Lent.., Kept.. of type 45).
-/
namespace Go.Proofs.YtmakokbpadmfbaaGreat
open Go.RowKit Eng
set_option linter.unusedVariables false
set_option linter.unusedSimpArgs false
set_option maxHeartbeats 8000000
attribute [local irreducible] SC SQ J Qt Calls Iterates LSub FSub
theorem N_eq (a b : Sn) : a = b ↔ a.it = b.it ∧ a.cl = b.cl ∧ a.fr = b.fr ∧ a.to = b.to ∧ a.ac = b.ac ∧ a.de = b.de := by
  cases a; cases b; simp
instance : DecidableEq Sn := fun a b => decidable_of_iff _ (N_eq a b).symm
theorem eqm45 : Tryz.prog.eqGuardType Tryz.prog.depth 45 = false := by kernel_rfl
theorem eq45 (a b : Sn) (w : World) : (Op.equalIn 10000 45 (snV a) (snV b)).run Tryz.prog w = .ok (decide (a = b)) w := by
  have u3 := Tryz.underlying3
  have a3 := Tryz.isAgg3
  have z3 := Tryz.sizeOf3
  have u5 := Tryz.underlying5
  have a5 := Tryz.isAgg5
  have z5 := Tryz.sizeOf5
  rw [run_equalIn_agg w 9999 45 _ _ (by kernel_rfl) (by kernel_rfl)]
  simp only [Program.fieldsOf, Tryz.underlying45]
  go_simp
  have e : decide (a = b) = decide (a.it = b.it ∧ a.cl = b.cl ∧ a.fr = b.fr ∧ a.to = b.to ∧ a.ac = b.ac ∧ a.de = b.de) := decide_eq_decide.2 (N_eq a b)
  rw [e]
  by_cases h0 : a.it = b.it <;> by_cases h1 : a.cl = b.cl <;> by_cases h2 : a.fr = b.fr <;> by_cases h3 : a.to = b.to <;> by_cases h4 : a.ac = b.ac <;> by_cases h5 : a.de = b.de <;> simp [h0, h1, h2, h3, h4, h5]
theorem eq45r (a : Sn) (w : World) : (Op.equalIn 10000 45 (snV a) (snV a)).run Tryz.prog w = .ok true w := by rw [eq45, decide_eq_true rfl]
def mkN (k i : Int) : Sn := ⟨1000003 * (k + 7) + i, 0, 0, 0, 0, 0⟩
def mksN (k : Int) : Nat → List Sn
  | 0 => []
  | n + 1 => mksN k n ++ [mkN k n]
theorem mksN_len (k : Int) : ∀ n, (mksN k n).length = n
  | 0 => rfl
  | n + 1 => by simp [mksN, mksN_len k n]
theorem mksN_get (k : Int) : ∀ n i, i < n → (mksN k n)[i]? = some (mkN k i)
  | 0, i, h => by omega
  | n + 1, i, h => by
    simp only [mksN]
    by_cases hi : i < n
    · rw [List.getElem?_append_left (by rw [mksN_len]; exact hi), mksN_get k n i hi]
    · have : i = n := by omega
      subst this
      rw [List.getElem?_append_right (by rw [mksN_len]; omega), mksN_len, Nat.sub_self]
      rfl
theorem markN_c (k i : Int) (w : World) (hk : 0 ≤ k ∧ k ≤ 2) (hi : 0 ≤ i ∧ i ≤ 100000) : Calls Tryz.prog 88 #[.int .i64 k, .int .i64 i] w fun e w' => e = .returned (snV (mkN k i)) ∧ Below w.heap.size w w' := by
  refine eng_start (n := 9) (args := [.int .i64 k, .int .i64 i]) tab tab_ok fns fns_ok [.cell 4 45] Tryz.func88 rfl rfl rfl rfl ?_
  repeat' (first | (refine gJ ?_; first | refine js rfl rfl rfl rfl ?_ | (refine gcall rfl rfl ?_; (refine j_qc (f := 99) rfl rfl rfl rfl rfl rfl rfl ?_; refine ⟨_, (fun w' _ => mark_c k i w' hk hi), ?_⟩)) | (refine gF ?_; first | refine j_store rfl rfl rfl rfl rfl rfl rfl rfl (by (repeat constructor)) (by rfl) ?_ | (refine j_alloc rfl rfl rfl rfl rfl ?_; intro b)) | (refine j_qe rfl rfl rfl ?_; refine ⟨_, q_build_struct rfl rfl rfl rfl rfl, ?_⟩)) | (refine gSC ?_; first | refine sc_mv rfl ?_ | refine sc_q rfl ?_ | refine sc_region ?_) | (refine gSQ ?_; first | refine sq_go rfl ?_ | refine sq_ende (by first | exact .inl rfl | exact .inr rfl) rfl rfl ⟨_, (RVs.cons (by first | exact RV.cell rfl rfl rfl (by (repeat constructor)) (by rfl) | exact RV.cellA rfl rfl rfl (by (repeat constructor)) (by rfl)) (RVs.nil)), ?_⟩) | refine j_nil ?_)
  (intro w' hS; refine ⟨?_, hS.below⟩; simp only [pack])
  rfl
theorem lentN_c (A : Option Addr) (c : Nat) (l : List Sn) (w : World) (hl : l.length ≤ 2000) (hs : Sl A l.length c) (h : RS w 6 snC A l) :
    Calls Tryz.prog 61 #[.slice A l.length c] w fun e w' => ∃ x : Addr × Nat, l.length + 12 ≤ x.2 ∧ e = .returned (.slice (some x.1) l.length x.2) ∧ St w Cold [.own (.slice (some x.1) (l.length + 12) x.2) 45 6 (l.length + 12) ((l ++ mksN 1 12).flatMap snC)] w' := by
  have hre := fun w' (h : RS w' 6 snC A l) => reads_ext (f := snC) (sz := 6) (fun _ => rfl) (fun _ => rfl) h (fun e => ⟨List.length_eq_zero_iff.1 (hs.nil e).1, (hs.nil e).2⟩)
  obtain ⟨n, hn⟩ : ∃ n, l.length = n := ⟨_, rfl⟩
  rw [hn] at hre hl ⊢
  refine eng_start (n := 25) (args := [.slice A n c]) tab tab_ok fns fns_ok [.tmp 2] Tryz.func61 rfl rfl rfl rfl ?_
  repeat' (first | (refine gJ ?_; first | refine js rfl rfl rfl rfl ?_ | refine jar rfl rfl rfl rfl rfl rfl rfl (by omega) ?_ | (refine gF ?_; refine j_make0 rfl rfl rfl rfl rfl rfl rfl rfl rfl ⟨by omega, by omega⟩ ?_; intro b1) | (refine gF ?_; refine j_appendS (cs := l.flatMap snC) (n := 0) (A := A) (k := n) (c := c) rfl rfl rfl rfl rfl rfl rfl rfl rfl rfl rfl (fun w' hs => hre w' (h.st hs)) (by (repeat constructor)) (by omega) (fun _ => by (repeat constructor)) ?_; intro v9) | (refine j_qe rfl rfl rfl ?_; refine ⟨_, q_len_slice rfl rfl rfl rfl, ?_⟩)) | (refine gSC ?_; first | refine sc_mv rfl ?_ | refine sc_region ?_) | (refine gSQ ?_; refine sq_go rfl ?_) | refine j_nil ?_)
  refine sc_loop (ι := Nat × Value) (fun i => i.1 ≤ 12) (fun i => 12 - i.1) (fun i => [(0, .slice A n c), (3, i.2), (4, .int .i64 i.1)]) (fun i => [.own i.2 45 6 (n + i.1) ((l ++ mksN 1 i.1).flatMap snC)]) (0, v9) (Nat.zero_le _) (by repeat (first | exact FSub.nil | refine FSub.cons rfl ?_ | refine FSub.conse rfl (by congr 1; omega) ?_)) ?_ ?_
  · dsimp only
    rw [show mksN 1 0 = [] from rfl, List.append_nil, Nat.add_zero]
    have e1 : HA.own v9 45 6 (0 + n) ([] ++ l.flatMap snC) = .own v9 45 6 n (l.flatMap snC) := by rw [Nat.zero_add, List.nil_append]
    rw [← e1]
    exact (by repeat (first | exact LSub.nil | refine LSub.cons (by repeat (first | exact Rem.here | apply Rem.there)) ?_))
  rintro ⟨i, v0⟩ hi
  dsimp only at hi ⊢
  by_cases hlt : i < 12
  · have e1 : (l ++ mksN 1 i).flatMap snC ++ snC (mkN 1 i) = (l ++ mksN 1 (i + 1)).flatMap snC := by
      simp only [mksN]
      rw [← List.append_assoc, List.flatMap_append (xs := l ++ mksN 1 i)]
      simp
    repeat' (first | (refine gJ ?_; first | refine js rfl rfl rfl rfl ?_ | refine jar rfl rfl rfl rfl rfl rfl rfl (by omega) ?_ | (refine gcall rfl rfl ?_; (refine j_qc (f := 88) rfl rfl rfl rfl rfl rfl rfl ?_; refine ⟨_, (fun w' _ => markN_c 1 i w' (by omega) (by omega)), ?_⟩)) | (refine gF ?_; refine j_append (xs := (l ++ mksN 1 i).flatMap snC) rfl rfl rfl rfl rfl rfl rfl rfl rfl rfl rfl (by (repeat constructor)) (by (repeat constructor)) (by rfl) (by rfl) (by omega) (fun _ => by (repeat constructor)) ?_; intro v) | (refine gF ?_; (refine j_buildSlice rfl rfl rfl rfl rfl rfl rfl rfl rfl rfl rfl rfl ?_; intro b))) | (refine gSC ?_; first | refine sc_mv rfl ?_ | refine sc_q rfl ?_ | refine sc_region ?_) | (refine gSQ ?_; first | refine sq_go rfl ?_ | refine sq_mv rfl ?_) | refine j_nil ?_ | ((refine sc_cond rfl ?_ ?_) <;> intro hc <;> (((try simp only [engHC] at hc) <;> first | (exfalso; omega) | skip))))
    refine sq_loop (i + 1, v) (by show i + 1 ≤ 12; omega) (by show 12 - (i + 1) < 12 - i; omega) (by repeat (first | exact FSub.nil | refine FSub.cons rfl ?_ | refine FSub.conse rfl (by congr 1; omega) ?_)) ?_
    dsimp only
    rw [← e1]
    exact (by repeat (first | exact LSub.refl | refine LSub.cons (by repeat (first | exact Rem.here | apply Rem.there)) ?_ | apply LSub.skip))
  · obtain rfl : i = 12 := by omega
    refine sc_ownq (v := v0) (by (repeat constructor)) (by omega) ?_
    rintro ad c2 rfl hc2
    repeat' (first | (refine gJ ?_; first | refine js rfl rfl rfl rfl ?_ | (refine j_qe rfl rfl rfl ?_; refine ⟨_, q_sliceHi n rfl rfl rfl rfl rfl (by omega), ?_⟩) | (refine j_qe rfl rfl rfl ?_; refine ⟨_, q_len_slice rfl rfl rfl rfl, ?_⟩)) | (refine gSC ?_; first | refine sc_mv rfl ?_ | refine sc_q rfl ?_ | refine sc_region ?_) | (refine gSQ ?_; first | refine sq_go rfl ?_ | refine sq_mv rfl ?_ | refine sq_ende (by first | exact .inl rfl | exact .inr rfl) rfl rfl ⟨_, (RVs.cons (RV.tmp rfl) (RVs.nil)), ?_⟩) | refine j_nil ?_ | ((refine sc_cond rfl ?_ ?_) <;> intro hc <;> (first | exact absurd hc (by decide) | ((try simp only [engHC] at hc) <;> skip))))
    intro w' hS
    exact ⟨(ad, c2), hc2, rfl, hS⟩
theorem keptN_c (ad : Addr) (c2 : Nat) (A : Option Addr) (c : Nat) (l : List Sn) (w : World) (hl : l.length ≤ 2000) (hc : l.length + 12 ≤ c2) (hL : RS w 6 snC (some ad) (l ++ mksN 1 12)) (h : RS w 6 snC A l) :
    Calls Tryz.prog 66 #[.slice (some ad) l.length c2, .slice A l.length c] w fun e w' => e = .returned (.bool true) ∧ Below w.heap.size w w' := by
  have hg : ∀ k, k < l.length → (l ++ mksN 1 12)[k]? = l[k]? := fun k hk => List.getElem?_append_left hk
  have hm : ∀ k, l.length ≤ k → k < l.length + 12 → (l ++ mksN 1 12)[k]? = some (mkN 1 ((k - l.length : Nat) : Int)) := fun k h1 h2 => by rw [List.getElem?_append_right h1]; exact mksN_get _ _ _ (by omega)
  obtain ⟨n, hn⟩ : ∃ n, l.length = n := ⟨_, rfl⟩
  rw [hn] at hl hc hg hm ⊢
  refine eng_start (n := 58) (args := [.slice (some ad) n c2, .slice A n c]) tab tab_ok fns fns_ok [.tmp 4] Tryz.func66 rfl rfl rfl rfl ?_
  repeat' (first | (refine gJ ?_; first | refine js rfl rfl rfl rfl ?_ | refine jar rfl rfl rfl rfl rfl rfl rfl (by omega) ?_ | (refine j_qe rfl rfl rfl ?_; refine ⟨_, q_sliceHi (n + 12) rfl rfl rfl rfl rfl (by omega), ?_⟩) | (refine j_qe rfl rfl rfl ?_; refine ⟨_, q_len_slice rfl rfl rfl rfl, ?_⟩)) | (refine gSC ?_; first | refine sc_mv rfl ?_ | refine sc_q rfl ?_ | refine sc_region ?_) | (refine gSQ ?_; refine sq_go rfl ?_) | refine j_nil ?_ | ((refine sc_cond rfl ?_ ?_) <;> intro hc <;> (((try simp only [engHC] at hc) <;> first | exact absurd trivial hc | skip))))
  refine sc_loop (ι := Nat) (fun k => k ≤ n + 12) (fun k => n + 12 - k) (fun k => [(1, .slice A n c), (5, .slice (some ad) (n + 12) c2), (6, .int .i64 k)]) (fun _ => []) 0 (Nat.zero_le _) (by repeat (first | exact FSub.nil | refine FSub.cons rfl ?_ | refine FSub.conse rfl (by congr 1; omega) ?_)) (by repeat (first | exact LSub.nil | refine LSub.cons (by repeat (first | exact Rem.here | apply Rem.there)) ?_)) ?_
  intro k hk
  by_cases hlt : k < n
  · obtain ⟨x, hx⟩ : ∃ x, l[k]? = some x := ⟨_, List.getElem?_eq_getElem (by omega)⟩
    obtain ⟨ad1, e1, hX⟩ := hL k x (by rw [hg k hlt]; exact hx)
    obtain rfl : ad = ad1 := by injection e1
    obtain ⟨ad2, rfl, hY⟩ := h k x hx
    repeat' (first | (refine gJ ?_; first | refine js rfl rfl rfl rfl ?_ | (refine gload rfl rfl ?_; refine j_qe rfl rfl rfl ?_; refine ⟨_, q_loadA_ext rfl rfl rfl rfl ⟨by assumption, (by first | exact id | assumption)⟩ (by rfl), ?_⟩) | refine jar rfl rfl rfl rfl rfl rfl rfl (by omega) ?_ | (refine j_qe rfl rfl rfl ?_; refine ⟨_, q_eqS rfl eqm45 rfl rfl (eq45r x), ?_⟩) | (refine j_qe rfl rfl rfl ?_; first | refine ⟨_, q_index_nat rfl rfl rfl rfl rfl (by omega), ?_⟩ | refine ⟨_, q_len_slice rfl rfl rfl rfl, ?_⟩)) | (refine gSC ?_; first | refine sc_mv rfl ?_ | refine sc_q rfl ?_ | refine sc_region ?_ | refine sc_draw rfl mixed (by kernel_rfl) ?_) | (refine gSQ ?_; first | refine sq_go rfl ?_ | refine sq_mv rfl ?_) | refine j_nil ?_ | ((first | refine j_guard rfl rfl rfl rfl rfl ?_ ?_ | refine sc_cond rfl ?_ ?_) <;> intro hc <;> (first | exact absurd hc (by decide) | ((try simp only [engHC] at hc) <;> first | (exfalso; omega) | skip))))
    exact sq_loop (k + 1) (by omega) (by omega) (by repeat (first | exact FSub.nil | refine FSub.cons rfl ?_ | refine FSub.conse rfl (by congr 1; omega) ?_)) (by repeat (first | exact LSub.nil | refine LSub.cons (by repeat (first | exact Rem.here | apply Rem.there)) ?_))
  · by_cases hlt2 : k < n + 12
    · obtain ⟨j, rfl⟩ : ∃ j, k = n + j := ⟨k - n, by omega⟩
      have hmk := hm (n + j) (by omega) hlt2
      rw [Nat.add_sub_cancel_left] at hmk
      obtain ⟨ad1, e1, hX⟩ := hL (n + j) _ hmk
      obtain rfl : ad = ad1 := by injection e1
      have hmc := fun w' => markN_c 1 j w' (by omega) (by omega)
      have ej : (((n + j : Nat) : Int) - (n : Int)) = (j : Int) := by omega
      rw [← ej] at hmc
      rw [← ej] at hX
      repeat' (first | (refine gJ ?_; first | refine js rfl rfl rfl rfl ?_ | (refine gload rfl rfl ?_; refine j_qe rfl rfl rfl ?_; refine ⟨_, q_loadA_ext rfl rfl rfl rfl ⟨by assumption, (by first | exact id | assumption)⟩ (by rfl), ?_⟩) | refine jar rfl rfl rfl rfl rfl rfl rfl (by omega) ?_ | (refine gcall rfl rfl ?_; (refine j_qc (f := 88) rfl rfl rfl rfl rfl rfl rfl ?_; refine ⟨_, (fun w' _ => hmc w'), ?_⟩)) | (refine j_qe rfl rfl rfl ?_; refine ⟨_, q_eqS rfl eqm45 rfl rfl (eq45r (mkN 1 (((n + j : Nat) : Int) - (n : Int)))), ?_⟩) | (refine j_qe rfl rfl rfl ?_; first | refine ⟨_, q_index_nat rfl rfl rfl rfl rfl (by omega), ?_⟩ | refine ⟨_, q_len_slice rfl rfl rfl rfl, ?_⟩)) | (refine gSC ?_; first | refine sc_mv rfl ?_ | refine sc_q rfl ?_ | refine sc_region ?_ | refine sc_draw rfl mixed (by kernel_rfl) ?_) | (refine gSQ ?_; first | refine sq_go rfl ?_ | refine sq_mv rfl ?_) | refine j_nil ?_ | ((first | refine j_guard rfl rfl rfl rfl rfl ?_ ?_ | refine sc_cond rfl ?_ ?_) <;> intro hc <;> (first | exact absurd hc (by decide) | ((try simp only [engHC] at hc) <;> first | (exfalso; omega) | skip))))
      exact sq_loop (n + j + 1) (by omega) (by omega) (by repeat (first | exact FSub.nil | refine FSub.cons rfl ?_ | refine FSub.conse rfl (by congr 1; omega) ?_)) (by repeat (first | exact LSub.nil | refine LSub.cons (by repeat (first | exact Rem.here | apply Rem.there)) ?_))
    · repeat' (first | (refine gJ ?_; first | refine js rfl rfl rfl rfl ?_ | (refine j_qe rfl rfl rfl ?_; refine ⟨_, q_len_slice rfl rfl rfl rfl, ?_⟩)) | (refine gSC ?_; first | refine sc_mv rfl ?_ | refine sc_q rfl ?_ | refine sc_region ?_) | (refine gSQ ?_; first | refine sq_go rfl ?_ | refine sq_mv rfl ?_ | refine sq_ende (by first | exact .inl rfl | exact .inr rfl) rfl rfl ⟨_, (RVs.cons (RV.tmp rfl) (RVs.nil)), ?_⟩) | refine j_nil ?_ | ((refine sc_cond rfl ?_ ?_) <;> intro hc <;> (((try simp only [engHC] at hc) <;> first | (exfalso; omega) | skip))))
      (intro w' hS; refine ⟨?_, hS.below⟩; simp only [pack])
end Go.Proofs.YtmakokbpadmfbaaGreat
