/-
  In one text: Mad, Tra, Aw41, Lat, Mds, Sup, Sms, Wrp, Wro.
-/
import Derived.Test.YtmakokbpadmfbaaGreatMe4
import Derived.Test.YtmakokbpadmfbaaGreatEngCoreB
/-
  The items that are made.
-/
namespace Go.Proofs.YtmakokbpadmfbaaGreat
open Go.RowKit Eng
set_option linter.unusedVariables false
set_option linter.unusedSimpArgs false
set_option maxHeartbeats 8000000
attribute [local irreducible] SC SQ J Qt Calls Iterates LSub FSub
set_option maxHeartbeats 8000000 in
theorem made_c (A : Option Addr) (c : Nat) (l : List Th) (w : World) (hl : l.length ≤ 9223372036854775807) (hok : ∀ x ∈ l, thOk x) (h : RS w 4 thC A l) :
    Calls Tryz.prog 14 #[.slice A l.length c] w fun e w' => ∃ x : Value × Value, True ∧ e = .returned (.tuple #[x.1, x.2]) ∧ St w Cold [.own x.1 43 4 4 (std4.flatMap sdC), .own x.2 45 6 (madeF l).length ((madeF l).flatMap snC)] w' := by
  have hml := fun i => madeN_len l i
  have hms := fun i x (hx : l[i]? = some x) => madeN_succ hx
  have hfin : ∀ i, (i = l.length ∧ i ≤ 2000) ∨ (i = 2000 ∧ i ≤ l.length) → madeN l i = madeF l := fun i hi => by
    unfold madeF
    congr 1
    omega
  generalize hn : l.length = n at *
  refine eng_start (n := 85) (args := [.slice A n c]) tab tab_ok fns fns_ok [.tmp 2, .tmp 3] Tryz.func14 rfl rfl rfl rfl ?_
  repeat' (first | (refine gJ ?_; first | refine js rfl rfl rfl rfl ?_ | (refine gF ?_; (refine j_buildSlice rfl rfl rfl rfl rfl rfl rfl rfl rfl rfl rfl rfl ?_; intro b)) | (refine j_qe rfl rfl rfl ?_; refine ⟨_, q_build_struct rfl rfl rfl rfl rfl, ?_⟩)) | (refine gSC ?_; first | refine sc_mv rfl ?_ | refine sc_region ?_) | (refine gSQ ?_; refine sq_go rfl ?_) | refine j_nil ?_)
  refine sc_lit 4 (n := 4) (by (repeat constructor)) rfl (by omega) ?_
  refine sc_own_nil_at 45 6 ?_
  refine sc_loop (ι := Nat × Value) (fun i => i.1 ≤ n ∧ i.1 ≤ 2000) (fun i => n - i.1) (fun i => [(0, .slice A n c), (4, .slice (some ⟨b, 0, none⟩) 4 4), (5, i.2), (6, .int .i64 i.1)]) (fun i => [.own i.2 45 6 i.1 ((madeN l i.1).flatMap snC), .own (.slice (some ⟨b, 0, none⟩) 4 4) 43 4 4 (std4.flatMap sdC)]) (0, .slice none 0 0) ⟨Nat.zero_le _, Nat.zero_le _⟩ (by (try dsimp only); exact (by repeat (first | exact FSub.nil | refine FSub.cons rfl ?_ | refine FSub.conse rfl (by congr 1; omega) ?_))) (by repeat (first | exact LSub.refl | refine LSub.cons (by repeat (first | exact Rem.here | apply Rem.there)) ?_ | apply LSub.skip)) ?_
  rintro ⟨i, v0⟩ ⟨hi, hi2⟩
  dsimp only at hi hi2 ⊢
  revert b; intro b4
  by_cases hlt : i < n ∧ i < 2000
  · obtain ⟨hlt, hlt2⟩ := hlt
    obtain ⟨x, hx⟩ : ∃ x, l[i]? = some x := ⟨_, List.getElem?_eq_getElem (by omega)⟩
    obtain ⟨ad, rfl, hX⟩ := h i x hx
    obtain ⟨⟨p1, p2⟩, ⟨p3, p4⟩, ⟨p5, p6⟩⟩ := hok x (List.mem_of_getElem? hx)
    have hm1 := hms i x hx
    obtain ⟨k9, hk9⟩ : ∃ k9 : Nat, x.pr % 5 = k9 := ⟨(x.pr % 5).toNat, by omega⟩
    have hlen : (madeN l i ++ [mk1 i x]).flatMap snC = (madeN l i).flatMap snC ++ snC (mk1 i x) := by simp
    by_cases hk4 : k9 < 4
    · obtain ⟨s, hs⟩ : ∃ s, std4[k9]? = some s := ⟨_, List.getElem?_eq_getElem (by unfold std4; simpa using hk4)⟩
      have hmk : mk1 i x = ⟨1 + i, s.cl, s.fr, s.to, x.ac % 20000, if x.dl = true then x.ac % 20000 + x.tk % 8000 else -1⟩ := by
        unfold mk1
        rw [hk9, Int.toNat_natCast, hs]
      have hmkT : x.dl = true → mk1 i x = _ := fun h9 => by rw [hmk, if_pos h9]
      have hmkF : x.dl = false → mk1 i x = _ := fun h9 => by rw [hmk, if_neg (by rw [h9]; decide)]
      repeat' (first | (refine gJ ?_; first | refine js rfl rfl rfl rfl ?_ | (refine gload rfl rfl ?_; refine j_qe rfl rfl rfl ?_; first | refine ⟨_, q_load_own rfl rfl rfl rfl (by (repeat constructor)) (by first | rfl | assumption), ?_⟩ | refine ⟨_, q_loadA_own rfl rfl rfl rfl (by (repeat constructor)) (by rfl), ?_⟩ | refine ⟨_, q_load_ext rfl rfl rfl rfl ⟨by assumption, (by first | exact id | assumption)⟩ (by first | rfl | assumption), ?_⟩) | refine jfield rfl rfl rfl rfl rfl rfl rfl rfl ?_ | refine jar rfl rfl rfl rfl rfl rfl rfl (by omega) ?_ | (refine gF ?_; refine j_alloc rfl rfl rfl rfl rfl ?_; intro b5) | (refine j_qe rfl rfl rfl ?_; refine ⟨_, q_index_at k9 rfl rfl rfl rfl rfl (by omega), ?_⟩) | (refine j_qe rfl rfl rfl ?_; refine ⟨_, q_rowF (f := sdC) (l := std4) (i := k9) (off := 0) rfl rfl rfl rfl (by (repeat constructor)) (fun _ => rfl) hs rfl, ?_⟩) | (refine j_qe rfl rfl rfl ?_; refine ⟨_, q_rowF (f := sdC) (l := std4) (i := k9) (off := 1) rfl rfl rfl rfl (by (repeat constructor)) (fun _ => rfl) hs rfl, ?_⟩) | (refine j_qe rfl rfl rfl ?_; refine ⟨_, q_rowF (f := sdC) (l := std4) (i := k9) (off := 2) rfl rfl rfl rfl (by (repeat constructor)) (fun _ => rfl) hs rfl, ?_⟩) | (refine gF ?_; first | refine j_store rfl rfl rfl rfl rfl rfl rfl rfl (by (repeat constructor)) (by rfl) ?_ | (refine j_buildSlice rfl rfl rfl rfl rfl rfl rfl rfl rfl rfl rfl rfl ?_; intro b) | (refine j_append rfl rfl rfl rfl rfl rfl rfl rfl rfl rfl rfl (by (repeat constructor)) (by (repeat constructor)) (by rfl) (by rfl) (by omega) (fun _ => by (repeat constructor)) ?_; intro v)) | (refine j_qe rfl rfl rfl ?_; first | refine ⟨_, q_index_nat rfl rfl rfl rfl rfl (by omega), ?_⟩ | refine ⟨_, q_len_slice rfl rfl rfl rfl, ?_⟩ | refine ⟨_, q_build_struct rfl rfl rfl rfl rfl, ?_⟩ | refine ⟨_, q_field_ext rfl rfl rfl rfl rfl, ?_⟩ | refine ⟨_, q_rem rfl rfl rfl (by omega), ?_⟩ | refine ⟨_, q_conv rfl rfl rfl rfl rfl rfl (by first | rfl | (exact i64_wrap (by omega) (by omega)) | (exact u8_wrap (by omega) (by omega)) | (exact u64_wrap (by omega) (by omega)) | (exact u16_wrap (by omega) (by omega))), ?_⟩)) | (refine gSC ?_; first | refine sc_mv rfl ?_ | refine sc_q rfl ?_ | refine sc_region ?_ | refine sc_autoR 9 (.cells b5 45 _) (.q 0 (.q 1 (.q 2 (.q 3 (.q 4 (.q 5 (.q 6 (.q 7 (.q 8 (.q 9 (.q 10 (.q 11 (.q 12 (.q 13 (.q 14 (.q 15 (.e 16 (.q 17 (.e 18 (.q 19 (.e 20 (.z)))))))))))))))))))))) (by repeat (first | exact Rem.here | apply Rem.there)) mixed ?_ | refine sc_auto0 11 (.q 0 (.q 2 (.q 3 (.q 4 (.q 5 (.b 1 6 (.e 6 (.q 7 (.q 8 (.q 9 (.q 10 (.e 11 (.z))))))) (.q 7 (.q 8 (.e 1 (.q 9 (.q 10 (.e 11 (.z))))))))))))) mixed ?_) | (refine gJG ?_; first | refine jg_q rfl (by kernel_rfl) ?_ | refine jg_e (by kernel_rfl) rfl ?_ | refine jg_b (by kernel_rfl) rfl rfl ?_ ?_ | refine jg_done (by kernel_rfl) ?_) | (refine gSQ ?_; first | refine jg_next ?_ | (refine gFE ?_; first | refine jg_next0 ?_ | refine jg_nextE (by first | exact LSub.refl | (repeat (first | exact LSub.refl | refine LSub.cons (by repeat (first | exact Rem.here | apply Rem.there)) ?_ | apply LSub.skip))) ?_) | refine sq_go rfl ?_ | refine sq_mv rfl ?_) | refine j_nil ?_ | ((first | refine j_guard rfl rfl rfl rfl rfl ?_ ?_ | refine sc_cond rfl ?_ ?_) <;> intro hc <;> (first | exact absurd hc (by decide) | ((try simp only [engHC] at hc) <;> first | (exfalso; omega) | skip))))
      all_goals
        refine sq_loop (i + 1, v) ⟨by show i + 1 ≤ n; omega, by show i + 1 ≤ 2000; omega⟩ (by show n - (i + 1) < n - i; omega) (by (try dsimp only); exact (by repeat (first | exact FSub.nil | refine FSub.cons rfl ?_ | refine FSub.conse rfl (by congr 1; omega) ?_))) ?_
        dsimp only
        rw [hm1, hlen]
        first | rw [hmkT (by assumption)] | rw [hmkF (by assumption)] | rw [hmkF (by simpa using (by assumption : ¬ x.dl = true))]
        exact (by repeat (first | exact LSub.refl | refine LSub.cons (by repeat (first | exact Rem.here | apply Rem.there)) ?_ | apply LSub.skip))
    · have hmk : mk1 i x = ⟨1 + i, 2, 3, 1, x.ac % 20000, if x.dl = true then x.ac % 20000 + x.tk % 8000 else -1⟩ := by
        unfold mk1
        rw [hk9, Int.toNat_natCast, List.getElem?_eq_none (by unfold std4; simpa using Nat.le_of_not_lt hk4)]
      have hmkT : x.dl = true → mk1 i x = _ := fun h9 => by rw [hmk, if_pos h9]
      have hmkF : x.dl = false → mk1 i x = _ := fun h9 => by rw [hmk, if_neg (by rw [h9]; decide)]
      repeat' (first | (refine gJ ?_; first | refine js rfl rfl rfl rfl ?_ | (refine gload rfl rfl ?_; refine j_qe rfl rfl rfl ?_; first | refine ⟨_, q_load_own rfl rfl rfl rfl (by (repeat constructor)) (by first | rfl | assumption), ?_⟩ | refine ⟨_, q_loadA_own rfl rfl rfl rfl (by (repeat constructor)) (by rfl), ?_⟩ | refine ⟨_, q_load_ext rfl rfl rfl rfl ⟨by assumption, (by first | exact id | assumption)⟩ (by first | rfl | assumption), ?_⟩) | refine jfield rfl rfl rfl rfl rfl rfl rfl rfl ?_ | refine jar rfl rfl rfl rfl rfl rfl rfl (by omega) ?_ | (refine gF ?_; refine j_alloc rfl rfl rfl rfl rfl ?_; intro b5) | (refine gF ?_; first | refine j_store rfl rfl rfl rfl rfl rfl rfl rfl (by (repeat constructor)) (by rfl) ?_ | (refine j_buildSlice rfl rfl rfl rfl rfl rfl rfl rfl rfl rfl rfl rfl ?_; intro b) | (refine j_append rfl rfl rfl rfl rfl rfl rfl rfl rfl rfl rfl (by (repeat constructor)) (by (repeat constructor)) (by rfl) (by rfl) (by omega) (fun _ => by (repeat constructor)) ?_; intro v)) | (refine j_qe rfl rfl rfl ?_; first | refine ⟨_, q_index_nat rfl rfl rfl rfl rfl (by omega), ?_⟩ | refine ⟨_, q_len_slice rfl rfl rfl rfl, ?_⟩ | refine ⟨_, q_build_struct rfl rfl rfl rfl rfl, ?_⟩ | refine ⟨_, q_field_ext rfl rfl rfl rfl rfl, ?_⟩ | refine ⟨_, q_rem rfl rfl rfl (by omega), ?_⟩ | refine ⟨_, q_conv rfl rfl rfl rfl rfl rfl (by first | rfl | (exact i64_wrap (by omega) (by omega)) | (exact u8_wrap (by omega) (by omega)) | (exact u64_wrap (by omega) (by omega)) | (exact u16_wrap (by omega) (by omega))), ?_⟩)) | (refine gSC ?_; first | refine sc_mv rfl ?_ | refine sc_q rfl ?_ | refine sc_region ?_ | refine sc_auto0 11 (.q 0 (.q 2 (.q 3 (.q 4 (.q 5 (.b 1 6 (.e 6 (.q 7 (.q 8 (.q 9 (.q 10 (.e 11 (.z))))))) (.q 7 (.q 8 (.e 1 (.q 9 (.q 10 (.e 11 (.z))))))))))))) mixed ?_) | (refine gJG ?_; first | refine jg_q rfl (by kernel_rfl) ?_ | refine jg_e (by kernel_rfl) rfl ?_ | refine jg_b (by kernel_rfl) rfl rfl ?_ ?_ | refine jg_done (by kernel_rfl) ?_) | (refine gSQ ?_; first | refine jg_next ?_ | (refine gFE ?_; first | refine jg_next0 ?_ | refine jg_nextE (by first | exact LSub.refl | (repeat (first | exact LSub.refl | refine LSub.cons (by repeat (first | exact Rem.here | apply Rem.there)) ?_ | apply LSub.skip))) ?_) | refine sq_go rfl ?_ | refine sq_mv rfl ?_) | refine j_nil ?_ | ((first | refine j_guard rfl rfl rfl rfl rfl ?_ ?_ | refine sc_cond rfl ?_ ?_) <;> intro hc <;> (first | exact absurd hc (by decide) | ((try simp only [engHC] at hc) <;> first | (exfalso; omega) | skip))))
      all_goals
        refine sq_loop (i + 1, v) ⟨by show i + 1 ≤ n; omega, by show i + 1 ≤ 2000; omega⟩ (by show n - (i + 1) < n - i; omega) (by (try dsimp only); exact (by repeat (first | exact FSub.nil | refine FSub.cons rfl ?_ | refine FSub.conse rfl (by congr 1; omega) ?_))) ?_
        dsimp only
        rw [hm1, hlen]
        first | rw [hmkT (by assumption)] | rw [hmkF (by assumption)] | rw [hmkF (by simpa using (by assumption : ¬ x.dl = true))]
        exact (by repeat (first | exact LSub.refl | refine LSub.cons (by repeat (first | exact Rem.here | apply Rem.there)) ?_ | apply LSub.skip))
  · have hf := hfin i (by omega)
    have hfl := hml i
    rw [hf] at hfl ⊢
    repeat' (first | (refine gJ ?_; first | refine js rfl rfl rfl rfl ?_ | (refine j_qe rfl rfl rfl ?_; refine ⟨_, q_len_slice rfl rfl rfl rfl, ?_⟩)) | (refine gSC ?_; first | refine sc_mv rfl ?_ | refine sc_q rfl ?_ | refine sc_region ?_) | (refine gSQ ?_; first | refine sq_go rfl ?_ | refine sq_mv rfl ?_ | refine sq_ende (by first | exact .inl rfl | exact .inr rfl) rfl rfl ⟨_, (RVs.cons (RV.tmp rfl) (RVs.cons (RV.tmp rfl) (RVs.nil))), ?_⟩) | refine j_nil ?_ | ((first | refine j_guard rfl rfl rfl rfl rfl ?_ ?_ | refine sc_cond rfl ?_ ?_) <;> intro hc <;> (first | exact absurd hc (by decide) | ((try simp only [engHC] at hc) <;> first | (exfalso; omega) | skip))))
    all_goals
      intro w' hS
      refine ⟨(_, _), trivial, rfl, ?_⟩
      rw [hfl]
      exact hS.sub (by repeat (first | exact LSub.refl | refine LSub.cons (by repeat (first | exact Rem.here | apply Rem.there)) ?_ | apply LSub.skip))
end Go.Proofs.YtmakokbpadmfbaaGreat

/-
  service: Transit.
-/
namespace Go.Proofs.YtmakokbpadmfbaaGreat
open Go.RowKit Eng
set_option linter.unusedVariables false
set_option linter.unusedSimpArgs false
set_option maxHeartbeats 8000000
attribute [local irreducible] SC SQ J Qt Calls Iterates LSub FSub
def trSel (cl fr to now : Int) (x : Sn) : Bool := decide (x.cl = cl ∧ x.fr = fr ∧ x.to = to) && delB x now
def trL (s : List Sn) (cl fr to now : Int) : List Int := (s.filter (trSel cl fr to now)).map fun x => x.de - x.ac
def trOk (s : List Sn) (now q : Int) : Prop := sentB s = true ∧ timeI now ∧ 0 ≤ q ∧ q ≤ 10000
instance (s : List Sn) (now q : Int) : Decidable (trOk s now q) := by unfold trOk; exact inferInstance
def trF (s : List Sn) (cl fr to now q : Int) : Int × Int :=
  if trOk s now q then (if (trL s cl fr to now).length = 0 then (0, 6) else (((sortI (trL s cl fr to now))[rank (trL s cl fr to now).length q.toNat]?).getD 0, 0)) else (0, 2)
theorem trL_snoc {s : List Sn} {i : Nat} {x : Sn} (cl fr to now : Int) (h : s[i]? = some x) : trL (s.take (i + 1)) cl fr to now = trL (s.take i) cl fr to now ++ (if trSel cl fr to now x = true then [x.de - x.ac] else []) := by
  unfold trL
  rw [take_snocS h, List.filter_append, List.map_append]
  congr 1
  simp only [List.filter_cons, List.filter_nil]
  split <;> rfl
theorem trL_len (s : List Sn) (cl fr to now : Int) : (trL s cl fr to now).length ≤ s.length := by unfold trL; rw [List.length_map]; exact List.length_filter_le _ _
set_option maxHeartbeats 8000000 in
theorem Transit_bad (B : Option Addr) (bc : Nat) (s : List Sn) (cl fr to now q : Int) (w : World) (hsl : s.length ≤ 9223372036854775807) (h2 : RS w 6 snC B s) (hbad : ¬ trOk s now q) :
    Calls Tryz.prog 22 #[.slice B s.length bc, .int .u8 cl, .int .i64 fr, .int .i64 to, .int .i64 now, .int .i64 q] w fun e w' => e = .returned (.tuple #[.int .i64 (trF s cl fr to now q).1, .int .i64 (trF s cl fr to now q).2]) ∧ Below w.heap.size w w' := by
  have hS := fun w' h' => RightSent_c B bc s w' hsl h'
  have hT := fun w' => isTime_c now w'
  have e : trF s cl fr to now q = (0, 2) := if_neg hbad
  rw [e]
  unfold trOk at hbad
  generalize sentB s = S at *
  generalize hm : s.length = m at *
  refine eng_start (n := 77) (args := [.slice B m bc, .int .u8 cl, .int .i64 fr, .int .i64 to, .int .i64 now, .int .i64 q]) tab tab_ok fns fns_ok [.tmp 12, .tmp 13] Tryz.func22 rfl rfl rfl rfl ?_
  cases S <;> by_cases ht : timeI now
  all_goals
    first | rw [decide_eq_true ht] at hT | rw [decide_eq_false ht] at hT
    simp only [ht, true_and, false_and, and_true, and_false, not_true_eq_false, not_false_eq_true, Bool.false_eq_true] at hbad
    repeat' (first | (refine gJ ?_; first | refine js rfl rfl rfl rfl ?_ | (refine gcall rfl rfl ?_; first | (refine j_qc (f := 45) rfl rfl rfl rfl rfl rfl rfl ?_; refine ⟨_, (fun w' hs => hS w' (h2.st hs)), ?_⟩) | (refine j_qc (f := 46) rfl rfl rfl rfl rfl rfl rfl ?_; refine ⟨_, (fun w' _ => hT w'), ?_⟩))) | (refine gSC ?_; first | refine sc_mv rfl ?_ | refine sc_q rfl ?_ | refine sc_region ?_) | (refine gSQ ?_; first | refine sq_go rfl ?_ | refine sq_mv rfl ?_ | refine sq_ende (by first | exact .inl rfl | exact .inr rfl) rfl rfl ⟨_, (RVs.cons (RV.tmp rfl) (RVs.cons (RV.tmp rfl) (RVs.nil))), ?_⟩) | refine j_nil ?_ | ((first | refine j_guard rfl rfl rfl rfl rfl ?_ ?_ | refine sc_cond rfl ?_ ?_) <;> intro hc <;> (first | exact absurd hc (by decide) | ((try simp only [engHC] at hc) <;> first | (exfalso; omega) | skip))))
    all_goals (intro w' hS; refine ⟨?_, hS.below⟩; simp only [pack])
set_option maxHeartbeats 8000000 in
theorem Transit_ok (B : Option Addr) (bc : Nat) (s : List Sn) (cl fr to now q : Int) (w : World) (h2 : RS w 6 snC B s) (hok : trOk s now q) :
    Calls Tryz.prog 22 #[.slice B s.length bc, .int .u8 cl, .int .i64 fr, .int .i64 to, .int .i64 now, .int .i64 q] w fun e w' => e = .returned (.tuple #[.int .i64 (trF s cl fr to now q).1, .int .i64 (trF s cl fr to now q).2]) ∧ Below w.heap.size w w' := by
  have hm9 := (sentB_ok hok.1).1
  have hsok := (sentB_ok hok.1).2
  have hS := fun w' h' => RightSent_c B bc s w' (by omega) h'
  have hT := fun w' => isTime_c now w'
  rw [hok.1] at hS
  rw [decide_eq_true hok.2.1] at hT
  have hres : trF s cl fr to now q = if (trL s cl fr to now).length = 0 then (0, 6) else (((sortI (trL s cl fr to now))[rank (trL s cl fr to now).length q.toNat]?).getD 0, 0) := if_pos hok
  obtain ⟨hq1, hq2⟩ := hok.2.2
  clear hok
  have hsn := fun i x (hx : s[i]? = some x) => trL_snoc cl fr to now hx
  have hln := fun i => trL_len (s.take i) cl fr to now
  have hall : s.take s.length = s := List.take_length
  have htl : ∀ i, (s.take i).length ≤ i := fun i => by rw [List.length_take]; omega
  obtain ⟨q9, rfl⟩ : ∃ q9 : Nat, q = q9 := ⟨q.toNat, by omega⟩
  rw [Int.toNat_natCast] at hres
  generalize hm : s.length = m at *
  refine eng_start (n := 77) (args := [.slice B m bc, .int .u8 cl, .int .i64 fr, .int .i64 to, .int .i64 now, .int .i64 q9]) tab tab_ok fns fns_ok [.tmp 12, .tmp 13] Tryz.func22 rfl rfl rfl rfl ?_
  repeat' (first | (refine gJ ?_; first | refine js rfl rfl rfl rfl ?_ | (refine gcall rfl rfl ?_; first | (refine j_qc (f := 45) rfl rfl rfl rfl rfl rfl rfl ?_; refine ⟨_, (fun w' hs => hS w' (h2.st hs)), ?_⟩) | (refine j_qc (f := 46) rfl rfl rfl rfl rfl rfl rfl ?_; refine ⟨_, (fun w' _ => hT w'), ?_⟩)) | (refine j_qe rfl rfl rfl ?_; refine ⟨_, q_len_slice rfl rfl rfl rfl, ?_⟩)) | (refine gSC ?_; first | refine sc_mv rfl ?_ | refine sc_q rfl ?_ | refine sc_region ?_) | (refine gSQ ?_; refine sq_go rfl ?_) | refine j_nil ?_ | ((first | refine j_guard rfl rfl rfl rfl rfl ?_ ?_ | refine sc_cond rfl ?_ ?_) <;> intro hc <;> (first | exact absurd hc (by decide) | ((try simp only [engHC] at hc) <;> first | (exfalso; omega) | skip))))
  refine sc_own_nil_at 3 1 ?_
  refine sc_loop (ι := Nat × Value) (fun i => i.1 ≤ m) (fun i => m - i.1) (fun i => [(1, .int .u8 cl), (2, .int .i64 fr), (3, .int .i64 to), (4, .int .i64 now), (5, .int .i64 q9), (14, i.2), (33, .slice B m bc), (34, .int .i64 m), (35, .int .i64 i.1)]) (fun i => [.own i.2 3 1 (trL (s.take i.1) cl fr to now).length ((trL (s.take i.1) cl fr to now).flatMap intC)]) (0, .slice none 0 0) (Nat.zero_le _) (by (try dsimp only); exact (by repeat (first | exact FSub.nil | refine FSub.cons rfl ?_ | refine FSub.conse rfl (by congr 1; omega) ?_))) (by repeat (first | exact LSub.refl | refine LSub.cons (by repeat (first | exact Rem.here | apply Rem.there)) ?_ | apply LSub.skip)) ?_
  rintro ⟨i, v0⟩ hi
  dsimp only at hi ⊢
  by_cases hlt : i < m
  · obtain ⟨x, hx⟩ : ∃ x, s[i]? = some x := ⟨_, List.getElem?_eq_getElem (by omega)⟩
    obtain ⟨ad, rfl, hX⟩ := h2 i x hx
    have hxok := hsok x (List.mem_of_getElem? hx)
    unfold okSn at hxok
    have e1 := hsn i x hx
    have hl1 : (trL (s.take i) cl fr to now).length ≤ 2000 := by have := hln i; have := htl i; omega
    have hD := fun w' => del_c x now w'
    have hdd : delB x now = true → x.de ≠ -1 := fun h9 => by unfold delB at h9; exact (of_decide_eq_true h9).1
    unfold trSel at e1
    clear hsn hln hall htl hS hT hsok
    by_cases hq3 : x.cl = cl ∧ x.fr = fr ∧ x.to = to
    · rw [decide_eq_true hq3, Bool.true_and] at e1
      cases hdb : delB x now
      · rw [hdb] at e1 hD
        rw [if_neg (by decide), List.append_nil] at e1
        repeat' (first | (refine gJ ?_; first | refine js rfl rfl rfl rfl ?_ | (refine gload rfl rfl ?_; refine j_qe rfl rfl rfl ?_; first | refine ⟨_, q_load_own rfl rfl rfl rfl (by (repeat constructor)) (by first | rfl | assumption), ?_⟩ | refine ⟨_, q_loadA_own rfl rfl rfl rfl (by (repeat constructor)) (by rfl), ?_⟩ | refine ⟨_, q_loadA_ext rfl rfl rfl rfl ⟨by assumption, (by first | exact id | assumption)⟩ (by rfl), ?_⟩) | refine jfield rfl rfl rfl rfl rfl rfl rfl rfl ?_ | refine jar rfl rfl rfl rfl rfl rfl rfl (by omega) ?_ | (refine gcall rfl rfl ?_; (refine j_qc (f := 48) rfl rfl rfl rfl rfl rfl rfl ?_; refine ⟨_, (fun w' _ => hD w'), ?_⟩)) | (refine gF ?_; first | refine j_store rfl rfl rfl rfl rfl rfl rfl rfl (by (repeat constructor)) (by rfl) ?_ | (refine j_alloc rfl rfl rfl rfl rfl ?_; intro b)) | (refine j_qe rfl rfl rfl ?_; refine ⟨_, q_index_nat rfl rfl rfl rfl rfl (by omega), ?_⟩)) | (refine gSC ?_; first | refine sc_mv rfl ?_ | refine sc_q rfl ?_ | refine sc_region ?_) | (refine gSQ ?_; first | refine sq_go rfl ?_ | refine sq_mv rfl ?_) | refine j_nil ?_ | ((first | refine j_guard rfl rfl rfl rfl rfl ?_ ?_ | refine sc_cond rfl ?_ ?_) <;> intro hc <;> (first | exact absurd hc (by decide) | ((try simp only [engHC] at hc) <;> first | (exfalso; omega) | skip))))
        exact sq_loop (i + 1, v0) (by show i + 1 ≤ m; omega) (by show m - (i + 1) < m - i; omega) (by (try dsimp only); exact (by repeat (first | exact FSub.nil | refine FSub.cons rfl ?_ | refine FSub.conse rfl (by congr 1; omega) ?_))) (by dsimp only; rw [e1]; exact (by repeat (first | exact LSub.refl | refine LSub.cons (by repeat (first | exact Rem.here | apply Rem.there)) ?_ | apply LSub.skip)))
      · have hde := hdd hdb
        rw [hdb] at e1 hD
        rw [if_pos rfl] at e1
        repeat' (first | (refine gJ ?_; first | refine js rfl rfl rfl rfl ?_ | (refine gload rfl rfl ?_; refine j_qe rfl rfl rfl ?_; first | refine ⟨_, q_load_own rfl rfl rfl rfl (by (repeat constructor)) (by first | rfl | assumption), ?_⟩ | refine ⟨_, q_loadA_own rfl rfl rfl rfl (by (repeat constructor)) (by rfl), ?_⟩ | refine ⟨_, q_loadA_ext rfl rfl rfl rfl ⟨by assumption, (by first | exact id | assumption)⟩ (by rfl), ?_⟩) | refine jfield rfl rfl rfl rfl rfl rfl rfl rfl ?_ | refine jar rfl rfl rfl rfl rfl rfl rfl (by omega) ?_ | (refine gcall rfl rfl ?_; (refine j_qc (f := 48) rfl rfl rfl rfl rfl rfl rfl ?_; refine ⟨_, (fun w' _ => hD w'), ?_⟩)) | (refine gF ?_; first | refine j_store rfl rfl rfl rfl rfl rfl rfl rfl (by (repeat constructor)) (by rfl) ?_ | (refine j_alloc rfl rfl rfl rfl rfl ?_; intro b) | (refine j_buildSlice rfl rfl rfl rfl rfl rfl rfl rfl rfl rfl rfl rfl ?_; intro b) | (refine j_append rfl rfl rfl rfl rfl rfl rfl rfl rfl rfl rfl (by (repeat constructor)) (by (repeat constructor)) (by rfl) (by rfl) (by omega) (fun _ => by (repeat constructor)) ?_; intro v)) | (refine j_qe rfl rfl rfl ?_; refine ⟨_, q_index_nat rfl rfl rfl rfl rfl (by omega), ?_⟩)) | (refine gSC ?_; first | refine sc_mv rfl ?_ | refine sc_q rfl ?_ | refine sc_region ?_) | (refine gSQ ?_; first | refine sq_go rfl ?_ | refine sq_mv rfl ?_) | refine j_nil ?_ | ((first | refine j_guard rfl rfl rfl rfl rfl ?_ ?_ | refine sc_cond rfl ?_ ?_) <;> intro hc <;> (first | exact absurd hc (by decide) | ((try simp only [engHC] at hc) <;> first | (exfalso; omega) | skip))))
        refine sq_loop (i + 1, v) (by show i + 1 ≤ m; omega) (by show m - (i + 1) < m - i; omega) (by (try dsimp only); exact (by repeat (first | exact FSub.nil | refine FSub.cons rfl ?_ | refine FSub.conse rfl (by congr 1; omega) ?_))) ?_
        dsimp only
        rw [e1, List.length_append, List.flatMap_append]
        exact (by repeat (first | exact LSub.refl | refine LSub.cons (by repeat (first | exact Rem.here | apply Rem.there)) ?_ | apply LSub.skip))
    · rw [decide_eq_false hq3, Bool.false_and, if_neg (by decide), List.append_nil] at e1
      repeat' (first | (refine gJ ?_; first | refine js rfl rfl rfl rfl ?_ | (refine gload rfl rfl ?_; refine j_qe rfl rfl rfl ?_; first | refine ⟨_, q_load_own rfl rfl rfl rfl (by (repeat constructor)) (by first | rfl | assumption), ?_⟩ | refine ⟨_, q_loadA_ext rfl rfl rfl rfl ⟨by assumption, (by first | exact id | assumption)⟩ (by rfl), ?_⟩) | refine jfield rfl rfl rfl rfl rfl rfl rfl rfl ?_ | refine jar rfl rfl rfl rfl rfl rfl rfl (by omega) ?_ | (refine gF ?_; first | refine j_store rfl rfl rfl rfl rfl rfl rfl rfl (by (repeat constructor)) (by rfl) ?_ | (refine j_alloc rfl rfl rfl rfl rfl ?_; intro b)) | (refine j_qe rfl rfl rfl ?_; refine ⟨_, q_index_nat rfl rfl rfl rfl rfl (by omega), ?_⟩)) | (refine gSC ?_; first | refine sc_mv rfl ?_ | refine sc_q rfl ?_ | refine sc_region ?_) | (refine gSQ ?_; first | refine sq_go rfl ?_ | refine sq_mv rfl ?_) | refine j_nil ?_ | ((first | refine j_guard rfl rfl rfl rfl rfl ?_ ?_ | refine sc_cond rfl ?_ ?_) <;> intro hc <;> (first | exact absurd hc (by decide) | ((try simp only [engHC] at hc) <;> first | (exfalso; omega) | skip))))
      all_goals exact sq_loop (i + 1, v0) (by show i + 1 ≤ m; omega) (by show m - (i + 1) < m - i; omega) (by (try dsimp only); exact (by repeat (first | exact FSub.nil | refine FSub.cons rfl ?_ | refine FSub.conse rfl (by congr 1; omega) ?_))) (by dsimp only; rw [e1]; exact (by repeat (first | exact LSub.refl | refine LSub.cons (by repeat (first | exact Rem.here | apply Rem.there)) ?_ | apply LSub.skip)))
  · have him : i = m := by omega
    subst him
    have hl1 : (trL s cl fr to now).length ≤ 2000 := by have := hln i; rw [hall] at this; omega
    rw [hall]
    generalize trL s cl fr to now = T at *
    refine sc_owns (v := v0) (by (repeat constructor)) ?_
    rintro A0 c0 rfl hs0
    by_cases hT0 : T.length = 0
    · rw [if_pos hT0] at hres
      rw [hres]
      repeat' (first | (refine gJ ?_; first | refine js rfl rfl rfl rfl ?_ | (refine j_qe rfl rfl rfl ?_; refine ⟨_, q_len_slice rfl rfl rfl rfl, ?_⟩)) | (refine gSC ?_; first | refine sc_mv rfl ?_ | refine sc_q rfl ?_ | refine sc_region ?_) | (refine gSQ ?_; first | refine sq_go rfl ?_ | refine sq_mv rfl ?_ | refine sq_ende (by first | exact .inl rfl | exact .inr rfl) rfl rfl ⟨_, (RVs.cons (RV.tmp rfl) (RVs.cons (RV.tmp rfl) (RVs.nil))), ?_⟩) | refine j_nil ?_ | ((refine sc_cond rfl ?_ ?_) <;> intro hc <;> (((try simp only [engHC] at hc) <;> first | (exfalso; omega) | skip))))
      (intro w' hS; refine ⟨?_, hS.below⟩; simp only [pack])
    · rw [if_neg hT0] at hres
      rw [hres]
      have hqc := fun w' h => quant_c A0 c0 T q9 w' (by omega) (by omega) (by omega) h
      repeat' (first | (refine gJ ?_; first | refine js rfl rfl rfl rfl ?_ | (refine gcall rfl rfl ?_; (refine j_qc (f := 49) rfl rfl rfl rfl rfl rfl rfl ?_; refine ⟨_, (fun w' hs => hqc w' ⟨rs_own (f := intC) (fun _ => rfl) hs (by (repeat constructor)) rfl rfl, fun h9 => ⟨List.length_eq_zero_iff.1 (hs0.nil h9).1, (hs0.nil h9).2⟩⟩), ?_⟩)) | (refine j_qe rfl rfl rfl ?_; refine ⟨_, q_len_slice rfl rfl rfl rfl, ?_⟩)) | (refine gSC ?_; first | refine sc_mv rfl ?_ | refine sc_q rfl ?_ | refine sc_region ?_) | (refine gSQ ?_; first | refine sq_go rfl ?_ | refine sq_mv rfl ?_ | refine sq_ende (by first | exact .inl rfl | exact .inr rfl) rfl rfl ⟨_, (RVs.cons (RV.tmp rfl) (RVs.cons (RV.tmp rfl) (RVs.nil))), ?_⟩) | refine j_nil ?_ | ((refine sc_cond rfl ?_ ?_) <;> intro hc <;> (((try simp only [engHC] at hc) <;> first | (exfalso; omega) | skip))))
      (intro w' hS; refine ⟨?_, hS.below⟩; simp only [pack])
theorem Transit_c (B : Option Addr) (bc : Nat) (s : List Sn) (cl fr to now q : Int) (w : World) (hsl : s.length ≤ 9223372036854775807) (h2 : RS w 6 snC B s) :
    Calls Tryz.prog 22 #[.slice B s.length bc, .int .u8 cl, .int .i64 fr, .int .i64 to, .int .i64 now, .int .i64 q] w fun e w' => e = .returned (.tuple #[.int .i64 (trF s cl fr to now q).1, .int .i64 (trF s cl fr to now q).2]) ∧ Below w.heap.size w w' := by
  by_cases hok : trOk s now q
  · exact Transit_ok B bc s cl fr to now q w h2 hok
  · exact Transit_bad B bc s cl fr to now q w hsl h2 hok
end Go.Proofs.YtmakokbpadmfbaaGreat

/-
  The examples of the chapter.
-/
namespace Go.Proofs.YtmakokbpadmfbaaGreat
open Go.RowKit Eng
set_option linter.unusedVariables false
set_option linter.unusedSimpArgs false
set_option maxHeartbeats 8000000
attribute [local irreducible] SC SQ J Qt Calls Iterates LSub FSub
theorem rw_eq (a b : Rw) : a = b ↔ a.cl = b.cl ∧ a.fr = b.fr ∧ a.to = b.to ∧ a.tr = b.tr ∧ a.kp = b.kp ∧ a.op = b.op ∧ a.ot = b.ot ∧ a.le = b.le ∧ a.gr = b.gr := by
  cases a; cases b; simp
theorem eqm35 : Tryz.prog.eqGuardType Tryz.prog.depth 35 = false := by kernel_rfl
theorem eq35 (a b : Rw) (w : World) : (Op.equalIn 10000 35 (rwV a) (rwV b)).run Tryz.prog w = .ok (decide (a = b)) w := by
  have u3 := Tryz.underlying3
  have a3 := Tryz.isAgg3
  have z3 := Tryz.sizeOf3
  have u5 := Tryz.underlying5
  have a5 := Tryz.isAgg5
  have z5 := Tryz.sizeOf5
  rw [run_equalIn_agg w 9999 35 _ _ (by kernel_rfl) (by kernel_rfl)]
  simp only [Program.fieldsOf, Tryz.underlying35]
  go_simp
  have e : decide (a = b) = decide (a.cl = b.cl ∧ a.fr = b.fr ∧ a.to = b.to ∧ a.tr = b.tr ∧ a.kp = b.kp ∧ a.op = b.op ∧ a.ot = b.ot ∧ a.le = b.le ∧ a.gr = b.gr) := decide_eq_decide.2 (rw_eq a b)
  rw [e]
  by_cases h1 : a.cl = b.cl
  · by_cases h2 : a.fr = b.fr
    · by_cases h3 : a.to = b.to
      · by_cases h4 : a.tr = b.tr
        · by_cases h5 : a.kp = b.kp
          · by_cases h6 : a.op = b.op
            · by_cases h7 : a.ot = b.ot
              · by_cases h8 : a.le = b.le <;> by_cases h9 : a.gr = b.gr <;> simp [h1, h2, h3, h4, h5, h6, h7, h8, h9]
              · simp [h1, h2, h3, h4, h5, h6, h7]
            · simp [h1, h2, h3, h4, h5, h6]
          · simp [h1, h2, h3, h4, h5]
        · simp [h1, h2, h3, h4]
      · simp [h1, h2, h3]
    · simp [h1, h2]
  · simp [h1]
theorem low_is {n k r L : Nat} (h1 : L = 0 ∨ posB n k r (L - 1) = false) (h2 : posB n k r L = true) (hL : L ≤ 10000) : lowF n k r = L := by
  refine lowest_eq (fun p hp => ?_) (fun _ => h2) hL
  rcases h1 with h | h
  · omega
  · cases hpp : posB n k r p with
    | false => rfl
    | true =>
      have := posB_mono n k r p (L - 1) (by omega) (by omega) hpp
      rw [h] at this
      cases this
theorem lowA : lowF 10 10 500 = 7412 := low_is (.inr (by decide +kernel)) (by decide +kernel) (by decide)
theorem lowB : lowF 10 0 500 = 0 := low_is (.inl rfl) (by decide +kernel) (by decide)
theorem ms_one {of : Sn → Lane} {l : List Sd} {s : List Sn} {now risk : Int} {k : Lane} {r : Rw} (h1 : msOk l s now risk) (h2 : lanesO of s = [k]) (h3 : rowAt of (fun x => outF l x now) s k = r) (h4 : r.tr ≤ 500) : msF of l s now risk = (0, [bndR r risk]) := by
  have hs : sortL (lanesO of s) = [k] := by rw [h2]; exact List.perm_singleton.1 (sortL_perm [k])
  unfold msF msLong msRows
  rw [if_pos h1, hs]
  simp only [List.any_cons, List.any_nil, Bool.or_false, List.map_cons, List.map_nil, h3]
  rw [if_neg (by simp; omega)]
def sentN (d : Int) (n : Nat) : List Sn := (List.range n).map fun j : Nat => sentF (1 + (j : Int)) d
theorem sentN_succ (d : Int) (n : Nat) : sentN d (n + 1) = sentN d n ++ [sentF (1 + (n : Int)) d] := by
  unfold sentN
  rw [List.range_succ, List.map_append]
  rfl
theorem sentN_len (d : Int) (n : Nat) : (sentN d n).length = n := by simp [sentN]
theorem keptM : msF ofM std1 (sentN 2000 10) 3000 500 = (0, [⟨1, 2, 3, 10, 10, 0, 0, 7412, 10000⟩]) := by
  rw [ms_one (k := ⟨1, 2, 3⟩) (r := ⟨1, 2, 3, 10, 10, 0, 0, 0, 0⟩) (by decide +kernel) (by decide +kernel) (by decide +kernel) (by decide)]
  have h1 : lowF (10 : Int).toNat (10 : Int).toNat (500 : Int).toNat = 7412 := lowA
  have h2 : lowF (10 : Int).toNat ((10 : Int).toNat - (10 : Int).toNat) (500 : Int).toNat = 0 := lowB
  unfold bndR
  simp only [h1, h2]
  rfl
theorem lateM : msF ofM std1 (sentN (-1) 10) 3000 500 = (0, [⟨1, 2, 3, 10, 0, 0, 0, 0, 2588⟩]) := by
  rw [ms_one (k := ⟨1, 2, 3⟩) (r := ⟨1, 2, 3, 10, 0, 0, 0, 0, 0⟩) (by decide +kernel) (by decide +kernel) (by decide +kernel) (by decide)]
  have h1 : lowF (10 : Int).toNat (0 : Int).toNat (500 : Int).toNat = 0 := lowB
  have h2 : lowF (10 : Int).toNat ((10 : Int).toNat - (0 : Int).toNat) (500 : Int).toNat = 7412 := lowA
  unfold bndR
  simp only [h1, h2]
  rfl
theorem trE : trF [sentF 1 600, sentF 2 800, sentF 3 2500] 1 2 3 3000 5000 = (300, 0) := by
  unfold trF
  rw [if_pos (by decide +kernel)]
  have hL : trL [sentF 1 600, sentF 2 800, sentF 3 2500] 1 2 3 3000 = [100, 300, 2000] := by decide +kernel
  rw [hL]
  have hsrt : sortI [100, 300, 2000] = [100, 300, 2000] := by unfold sortI; exact List.mergeSort_of_pairwise (by decide)
  rw [hsrt]
  rfl
structure Cs where
  x : Sn
  now : Int
  want : Int
abbrev csC (c : Cs) : List Value := snC c.x ++ [.int .i64 c.now, .int .u8 c.want]
def cases5 : List Cs := [⟨sentF 1 2879, 2878, 1⟩, ⟨sentF 1 2879, 2879, 2⟩, ⟨sentF 1 (-1), 2879, 1⟩, ⟨sentF 1 (-1), 2880, 3⟩, ⟨⟨1, 1, 3, 2, 500, 2879⟩, 2879, 4⟩]
theorem cases_ok : ∀ (i : Nat) (c : Cs), cases5[i]? = some c → judF std1 c.x c.now = (c.want, 0) := by
  have key : cases5.all (fun c => decide (judF std1 c.x c.now = (c.want, 0))) = true := by decide +kernel
  intro i c hc
  exact of_decide_eq_true (List.all_eq_true.1 key c (List.mem_of_getElem? hc))
theorem eq35r (a : Rw) (w : World) : (Op.equalIn 10000 35 (rwV a) (rwV a)).run Tryz.prog w = .ok true w := by rw [eq35, decide_eq_true rfl]
def rwK : Rw := ⟨1, 2, 3, 10, 10, 0, 0, 7412, 10000⟩
def rwL : Rw := ⟨1, 2, 3, 10, 0, 0, 0, 0, 2588⟩
theorem ver1 : verF rwK 7412 = (1, 0) := by decide
theorem ver2 : verF rwK 7413 = (3, 0) := by decide
theorem ver3 : verF rwL 2589 = (2, 0) := by decide
set_option maxRecDepth 4000 in
set_option maxHeartbeats 8000000 in
theorem awake_c (w : World) : Calls Tryz.prog 13 #[] w fun e w' => e = .returned (.bool true) ∧ Below w.heap.size w w' := by
  have hJ := fun (i : Nat) (x : Cs) (hx : cases5[i]? = some x) A w' h' => cases_ok i x hx ▸ Judge_c A 1 std1 x.x x.now w' (by simp [std1]) (by
    have key : cases5.all (fun c => decide (0 ≤ c.x.ac ∧ c.x.ac ≤ 1000000)) = true := by decide +kernel
    have := of_decide_eq_true (List.all_eq_true.1 key x (List.mem_of_getElem? hx))
    omega) h'
  have hk := fun A B bc w' h h2 => keptM ▸ Measure_c A 1 std1 B bc (sentN 2000 10) 3000 500 w' (by simp [std1]) (by rw [sentN_len]; omega) h h2
  have hl := fun A B bc w' h h2 => lateM ▸ Measure_c A 1 std1 B bc (sentN (-1) 10) 3000 500 w' (by simp [std1]) (by rw [sentN_len]; omega) h h2
  have ht := fun b w' h => trE ▸ Transit_c (some ⟨b, 0, none⟩) 3 [sentF 1 600, sentF 2 800, sentF 3 2500] 1 2 3 3000 5000 w' (by simp) h
  refine eng_start (n := 163) (args := []) tab tab_ok fns fns_ok [.tmp 0] Tryz.func13 rfl rfl rfl rfl ?_
  repeat' (first | (refine gJ ?_; first | refine js rfl rfl rfl rfl ?_ | (refine gload rfl rfl ?_; refine j_qe rfl rfl rfl ?_; refine ⟨_, q_loadA_own rfl rfl rfl rfl (by (repeat constructor)) (by rfl), ?_⟩) | refine jfield rfl rfl rfl rfl rfl rfl rfl rfl ?_ | (refine gcall rfl rfl ?_; (refine j_qc (f := 33) rfl rfl rfl rfl rfl rfl rfl ?_; refine ⟨_, (fun w' _ => sent_c _ _ w'), ?_⟩)) | (refine gF ?_; first | refine j_store rfl rfl rfl rfl rfl rfl rfl rfl (by (repeat constructor)) (by rfl) ?_ | (refine j_alloc rfl rfl rfl rfl rfl ?_; intro b) | (refine j_buildSlice rfl rfl rfl rfl rfl rfl rfl rfl rfl rfl rfl rfl ?_; intro b)) | (refine j_qe rfl rfl rfl ?_; first | refine ⟨_, q_len_slice rfl rfl rfl rfl, ?_⟩ | refine ⟨_, q_build_struct rfl rfl rfl rfl rfl, ?_⟩)) | (refine gSC ?_; first | refine sc_mv rfl ?_ | refine sc_region ?_ | refine sc_auto 3 (.q 0 (.q 1 (.q 2 (.q 3 (.q 4 (.q 5 (.q 6 (.q 7 (.q 8 (.q 9 (.q 12 (.e 10 (.q 11 (.z)))))))))))))) mixed ?_) | (refine gJG ?_; first | refine jg_q rfl (by kernel_rfl) ?_ | refine jg_e (by kernel_rfl) rfl ?_ | refine jg_done (by kernel_rfl) ?_) | (refine gSQ ?_; first | refine jg_next ?_ | (refine gFE ?_; refine jg_next1 ?_) | refine sq_go rfl ?_) | refine j_nil ?_)
  refine sc_lit 8 (n := 5) (by (repeat constructor)) rfl (by omega) ?_
  revert b; intro b5
  refine sc_loop (ι := Nat) (fun i => i ≤ 5) (fun i => 5 - i) (fun i => [(32, .slice (some ⟨b5, 0, none⟩) 5 5), (33, .int .i64 5), (34, .int .i64 i)]) (fun _ => [.own (.slice (some ⟨b5, 0, none⟩) 5 5) 70 8 5 (cases5.flatMap csC)]) 0 (Nat.zero_le _) (by (try dsimp only); exact (by repeat (first | exact FSub.nil | refine FSub.cons rfl ?_ | refine FSub.conse rfl (by congr 1; omega) ?_))) (by repeat (first | exact LSub.refl | refine LSub.cons (by repeat (first | exact Rem.here | apply Rem.there)) ?_ | apply LSub.skip)) ?_
  rintro i hi
  dsimp only at hi ⊢
  by_cases hlt : i < 5
  · obtain ⟨x, hx⟩ : ∃ x, cases5[i]? = some x := ⟨_, List.getElem?_eq_getElem (by simpa [cases5] using hlt)⟩
    have hJx := fun A w' h' => hJ i x hx A w' h'
    repeat' (first | (refine gJ ?_; first | refine js rfl rfl rfl rfl ?_ | (refine gload rfl rfl ?_; refine j_qe rfl rfl rfl ?_; first | refine ⟨_, q_load_own rfl rfl rfl rfl (by (repeat constructor)) (by first | rfl | assumption), ?_⟩ | refine ⟨_, q_loadA_own rfl rfl rfl rfl (by (repeat constructor)) (by rfl), ?_⟩) | refine jfield rfl rfl rfl rfl rfl rfl rfl rfl ?_ | refine jar rfl rfl rfl rfl rfl rfl rfl (by omega) ?_ | (refine gcall rfl rfl ?_; (refine j_qc (f := 21) rfl rfl rfl rfl rfl rfl rfl ?_; refine ⟨_, (fun w' hs => hJx (some ⟨bs, 0, none⟩) w' (rs_own (f := sdC) (fun _ => rfl) hs (by (repeat constructor)) rfl rfl)), ?_⟩)) | (refine gcall rfl rfl ?_; refine gF ?_; refine j_callN (f := 34) rfl rfl rfl rfl rfl rfl rfl (fun b : Nat => .slice (some ⟨b, 0, none⟩) 1 1) (fun _ => True) (fun b => [.own (.slice (some ⟨b, 0, none⟩) 1 1) 43 4 1 (std1.flatMap sdC)]) (fun w' _ => standard_c w') (fun _ => trivial) ?_; rintro bs _) | (refine j_qe rfl rfl rfl ?_; refine ⟨_, q_index_at i rfl rfl rfl rfl rfl (by omega), ?_⟩) | (refine j_qe rfl rfl rfl ?_; refine ⟨_, q_rowA (f := csC) (i := i) rfl rfl rfl rfl (by (repeat constructor)) (fun _ => rfl) hx rfl, ?_⟩) | (refine gF ?_; first | refine j_store rfl rfl rfl rfl rfl rfl rfl rfl (by (repeat constructor)) (by rfl) ?_ | (refine j_alloc rfl rfl rfl rfl rfl ?_; intro b))) | (refine gSC ?_; first | refine sc_mv rfl ?_ | refine sc_q rfl ?_ | refine sc_region ?_ | refine sc_auto 6 (.q 1 (.q 2 (.q 3 (.q 4 (.e 0 (.e 5 (.q 6 (.q 7 (.q 8 (.q 9 (.q 10 (.z)))))))))))) mixed ?_) | (refine gJG ?_; first | refine jg_q rfl (by kernel_rfl) ?_ | refine jg_e (by kernel_rfl) rfl ?_ | refine jg_done (by kernel_rfl) ?_) | (refine gSQ ?_; first | refine jg_next ?_ | (refine gFE ?_; first | refine jg_next0 ?_ | refine jg_next1 ?_) | refine sq_go rfl ?_ | refine sq_mv rfl ?_) | refine j_nil ?_ | ((first | refine j_guard rfl rfl rfl rfl rfl ?_ ?_ | refine sc_cond rfl ?_ ?_) <;> intro hc <;> (first | exact absurd hc (by decide) | ((try simp only [engHC] at hc) <;> first | (exfalso; omega) | exact absurd trivial hc | skip))))
    exact sq_loop (i + 1) (by show i + 1 ≤ 5; omega) (by show 5 - (i + 1) < 5 - i; omega) (by (try dsimp only); exact (by repeat (first | exact FSub.nil | refine FSub.cons rfl ?_ | refine FSub.conse rfl (by congr 1; omega) ?_))) (by repeat (first | exact LSub.refl | refine LSub.cons (by repeat (first | exact Rem.here | apply Rem.there)) ?_ | apply LSub.skip))
  · repeat' (first | (refine gJ ?_; refine js rfl rfl rfl rfl ?_) | (refine gSC ?_; first | refine sc_mv rfl ?_ | refine sc_q rfl ?_ | refine sc_region ?_) | (refine gSQ ?_; first | refine sq_go rfl ?_ | refine sq_mv rfl ?_) | refine j_nil ?_ | ((refine sc_cond rfl ?_ ?_) <;> intro hc <;> (((try simp only [engHC] at hc) <;> first | (exfalso; omega) | skip))))
    refine sc_own_nil_at 45 6 ?_
    refine sc_own_nil_at 45 6 ?_
    refine sc_loop (ι := Nat × Value × Value) (fun i => i.1 ≤ 10) (fun i => 10 - i.1) (fun i => [(6, i.2.1), (7, i.2.2), (8, .int .i64 (1 + (i.1 : Int)))]) (fun i => [.own i.2.1 45 6 i.1 ((sentN 2000 i.1).flatMap snC), .own i.2.2 45 6 i.1 ((sentN (-1) i.1).flatMap snC)]) (0, .slice none 0 0, .slice none 0 0) (Nat.zero_le _) (by (try dsimp only); exact (by repeat (first | exact FSub.nil | refine FSub.cons rfl ?_ | refine FSub.conse rfl (by congr 1; omega) ?_))) (by repeat (first | exact LSub.refl | refine LSub.cons (by repeat (first | exact Rem.here | apply Rem.there)) ?_ | apply LSub.skip)) ?_
    rintro ⟨j, v6, v7⟩ hj
    dsimp only at hj ⊢
    by_cases hlj : j < 10
    · have e1 := sentN_succ 2000 j
      have e2 := sentN_succ (-1) j
      repeat' (first | (refine gJ ?_; first | refine js rfl rfl rfl rfl ?_ | refine jar rfl rfl rfl rfl rfl rfl rfl (by omega) ?_ | (refine gcall rfl rfl ?_; (refine j_qc (f := 33) rfl rfl rfl rfl rfl rfl rfl ?_; refine ⟨_, (fun w' _ => sent_c _ _ w'), ?_⟩)) | (refine gF ?_; first | (refine j_buildSlice rfl rfl rfl rfl rfl rfl rfl rfl rfl rfl rfl rfl ?_; intro b) | (refine j_append rfl rfl rfl rfl rfl rfl rfl rfl rfl rfl rfl (by (repeat constructor)) (by (repeat constructor)) (by rfl) (by rfl) (by omega) (fun _ => by (repeat constructor)) ?_; intro v))) | (refine gSC ?_; first | refine sc_mv rfl ?_ | refine sc_q rfl ?_ | refine sc_region ?_) | (refine gSQ ?_; first | refine sq_go rfl ?_ | refine sq_mv rfl ?_) | refine j_nil ?_ | ((refine sc_cond rfl ?_ ?_) <;> intro hc <;> (((try simp only [engHC] at hc) <;> first | (exfalso; omega) | skip))))
      refine sq_loop (j + 1, _, _) (by show j + 1 ≤ 10; omega) (by show 10 - (j + 1) < 10 - j; omega) (by repeat (first | exact FSub.nil | refine FSub.cons rfl ?_ | refine FSub.conse rfl (by congr 1; push_cast; omega) ?_)) ?_
      dsimp only
      rw [e1, e2, List.flatMap_append, List.flatMap_append]
      exact (by repeat (first | exact LSub.refl | refine LSub.cons (by repeat (first | exact Rem.here | apply Rem.there)) ?_ | apply LSub.skip))
    · have hj10 : j = 10 := by omega
      subst hj10
      refine sc_owns (v := v6) (by (repeat constructor)) ?_
      rintro A6 c6 rfl hs6
      refine sc_owns (v := v7) (by (repeat constructor)) ?_
      rintro A7 c7 rfl hs7
      repeat' (first | (refine gJ ?_; first | refine js rfl rfl rfl rfl ?_ | refine jar rfl rfl rfl rfl rfl rfl rfl (by omega) ?_ | (refine gcall rfl rfl ?_; first | (refine j_qc (f := 33) rfl rfl rfl rfl rfl rfl rfl ?_; refine ⟨_, (fun w' _ => sent_c _ _ w'), ?_⟩) | (refine j_qc (f := 23) rfl rfl rfl rfl rfl rfl rfl ?_; refine ⟨_, (fun w' _ => ver1 ▸ Verdict_c rwK 7412 w'), ?_⟩) | (refine j_qc (f := 23) rfl rfl rfl rfl rfl rfl rfl ?_; refine ⟨_, (fun w' _ => ver2 ▸ Verdict_c rwK 7413 w'), ?_⟩) | (refine j_qc (f := 23) rfl rfl rfl rfl rfl rfl rfl ?_; refine ⟨_, (fun w' _ => ver3 ▸ Verdict_c rwL 2589 w'), ?_⟩) | (refine j_qc (f := 22) rfl rfl rfl rfl rfl rfl rfl ?_; refine ⟨_, (fun w' hs => ht b w' (rs_lit (f := snC) _ (fun _ => rfl) hs (by (repeat constructor)) rfl)), ?_⟩)) | (refine gcall rfl rfl ?_; refine gF ?_; refine j_callN (f := 34) rfl rfl rfl rfl rfl rfl rfl (fun b : Nat => .slice (some ⟨b, 0, none⟩) 1 1) (fun _ => True) (fun b => [.own (.slice (some ⟨b, 0, none⟩) 1 1) 43 4 1 (std1.flatMap sdC)]) (fun w' _ => standard_c w') (fun _ => trivial) ?_; rintro bs _) | (refine gcall rfl rfl ?_; refine gF ?_; refine j_callN (f := 17) rfl rfl rfl rfl rfl rfl rfl (fun v => .tuple #[v, .int .i64 0]) (fun _ => True) (fun v => [.own v 35 9 1 ([rwK].flatMap rwC)]) (fun w' hs => hk (some ⟨bs, 0, none⟩) A6 c6 w' (rs_own (f := sdC) (fun _ => rfl) hs (by (repeat constructor)) rfl rfl) (rs_own (f := snC) (l := sentN 2000 10) (fun _ => rfl) hs (by (repeat constructor)) rfl rfl)) (fun _ => trivial) ?_; rintro v9 _; refine j_ownp (v := v9) (by (repeat constructor)) (by omega) ?_; rintro a9 c9 rfl hs9) | (refine gcall rfl rfl ?_; refine gF ?_; refine j_callN (f := 17) rfl rfl rfl rfl rfl rfl rfl (fun v => .tuple #[v, .int .i64 0]) (fun _ => True) (fun v => [.own v 35 9 1 ([rwL].flatMap rwC)]) (fun w' hs => hl (some ⟨bs, 0, none⟩) A7 c7 w' (rs_own (f := sdC) (fun _ => rfl) hs (by (repeat constructor)) rfl rfl) (rs_own (f := snC) (l := sentN (-1) 10) (fun _ => rfl) hs (by (repeat constructor)) rfl rfl)) (fun _ => trivial) ?_; rintro v8 _; refine j_ownp (v := v8) (by (repeat constructor)) (by omega) ?_; rintro a8 c8 rfl hs8) | (refine j_qe rfl rfl rfl ?_; refine ⟨_, q_index_at 0 rfl rfl rfl rfl rfl (by omega), ?_⟩) | (refine j_qe rfl rfl rfl ?_; refine ⟨_, q_rowA (f := rwC) (l := [rwK]) (i := 0) rfl rfl rfl rfl (by (repeat constructor)) (fun _ => rfl) rfl rfl, ?_⟩) | (refine j_qe rfl rfl rfl ?_; refine ⟨_, q_rowA (f := rwC) (l := [rwL]) (i := 0) rfl rfl rfl rfl (by (repeat constructor)) (fun _ => rfl) rfl rfl, ?_⟩) | (refine j_qe rfl rfl rfl ?_; refine ⟨_, q_rowF (f := rwC) (l := [rwL]) (i := 0) (off := 8) rfl rfl rfl rfl (by (repeat constructor)) (fun _ => rfl) rfl rfl, ?_⟩) | (refine j_qe rfl rfl rfl ?_; refine ⟨_, q_neS rfl eqm35 rfl rfl (eq35r rwK), ?_⟩) | (refine gF ?_; (refine j_buildSlice rfl rfl rfl rfl rfl rfl rfl rfl rfl rfl rfl rfl ?_; intro b)) | (refine j_qe rfl rfl rfl ?_; first | refine ⟨_, q_len_slice rfl rfl rfl rfl, ?_⟩ | refine ⟨_, q_build_struct rfl rfl rfl rfl rfl, ?_⟩ | refine ⟨_, q_field_ext rfl rfl rfl rfl rfl, ?_⟩)) | (refine gSC ?_; first | refine sc_mv rfl ?_ | refine sc_q rfl ?_ | refine sc_region ?_) | (refine gSQ ?_; first | refine sq_go rfl ?_ | refine sq_mv rfl ?_ | refine sq_ende (by first | exact .inl rfl | exact .inr rfl) rfl rfl ⟨_, (RVs.cons (RV.tmp rfl) (RVs.nil)), ?_⟩) | refine j_nil ?_ | ((first | refine j_guard rfl rfl rfl rfl rfl ?_ ?_ | refine sc_cond rfl ?_ ?_) <;> intro hc <;> (first | exact absurd hc (by decide) | ((try simp only [engHC] at hc) <;> skip))))
      all_goals first | ((intro w' hS; refine ⟨?_, hS.below⟩; simp only [pack]); done) | ((intro w' hS; refine ⟨?_, hS.below⟩; simp only [pack]); exact rb (by simp))
end Go.Proofs.YtmakokbpadmfbaaGreat

/-
  ServiceLater.
-/
namespace Go.Proofs.YtmakokbpadmfbaaGreat
open Go.RowKit Eng
set_option linter.unusedVariables false
set_option linter.unusedSimpArgs false
set_option maxHeartbeats 8000000
attribute [local irreducible] SC SQ J Qt Calls Iterates LSub FSub
theorem std4_ok : sdsB std4 = true := by decide +kernel
theorem mk1_ok (i : Nat) (x : Th) (hx : thOk x) (hi : i < 999999) : okSn (mk1 i x) ∧ (mk1 i x).it = 1 + i ∧ (mk1 i x).ac ≤ 20000 := by
  obtain ⟨⟨p1, p2⟩, ⟨p3, p4⟩, ⟨p5, p6⟩⟩ := hx
  have key : ∀ c f t, 1 ≤ c → 1 ≤ f → f ≤ 10 → 1 ≤ t → t ≤ 10 → okSn ⟨1 + i, c, f, t, x.ac % 20000, if x.dl = true then x.ac % 20000 + x.tk % 8000 else -1⟩ := by
    intro c f t h1 h2 h3 h4 h5
    unfold okSn
    dsimp only
    split <;> omega
  unfold mk1
  dsimp only
  have hcase : ∀ (k : Nat) (s : Sd), std4[k]? = some s → 1 ≤ s.cl ∧ 1 ≤ s.fr ∧ s.fr ≤ 10 ∧ 1 ≤ s.to ∧ s.to ≤ 10 := by
    have h9 : std4.all (fun s : Sd => decide (1 ≤ s.cl ∧ 1 ≤ s.fr ∧ s.fr ≤ 10 ∧ 1 ≤ s.to ∧ s.to ≤ 10)) = true := by decide
    intro k s hs
    exact of_decide_eq_true (List.all_eq_true.1 h9 s (List.mem_of_getElem? hs))
  split
  · rename_i s hs
    obtain ⟨a1, a2, a3, a4, a5⟩ := hcase _ s hs
    exact ⟨key _ _ _ a1 a2 a3 a4 a5, rfl, by dsimp only; omega⟩
  · exact ⟨key 2 3 1 (by omega) (by omega) (by omega) (by omega) (by omega), rfl, by dsimp only; omega⟩
end Go.Proofs.YtmakokbpadmfbaaGreat

/-
  service, plain: the rows of items in closed form.
-/
namespace Go.Proofs.YtmakokbpadmfbaaGreat
open Go.RowKit Eng
set_option linter.unusedVariables false
set_option linter.unusedSimpArgs false
set_option maxHeartbeats 8000000
attribute [local irreducible] SC SQ J Qt Calls Iterates LSub FSub
def nOf (of : Sn → Lane) (out : Sn → Int) (s : List Sn) (k : Lane) (o : Int) : Nat := s.countP fun x => decide (of x = k ∧ out x = o)
section
variable {of : Sn → Lane} {out : Sn → Int}
end
/-! ### Right items -/
theorem snB_iff : ∀ (seen : List Int) (l : List Sn), snB seen l = true ↔ (∀ x ∈ l, okSn x) ∧ (l.map (·.it)).Nodup ∧ ∀ x ∈ l, x.it ∉ seen
  | seen, [] => by simp [snB]
  | seen, x :: l => by
    unfold snB
    rw [Bool.and_eq_true, Bool.and_eq_true, decide_eq_true_eq, snB_iff]
    simp only [List.mem_cons, List.mem_append, List.map_cons, List.nodup_cons, List.mem_map, Bool.not_eq_true', decide_eq_false_iff_not]
    constructor
    · rintro ⟨h1, h2, h3, h4, h5⟩
      refine ⟨fun y hy => ?_, ⟨fun ⟨y, hy, he⟩ => h5 y hy (.inr (.inl he)), h4⟩, fun y hy => ?_⟩
      · rcases hy with rfl | hy
        · exact h1
        · exact h3 y hy
      · rcases hy with rfl | hy
        · exact h2
        · exact fun h => h5 y hy (.inl h)
    · rintro ⟨h1, ⟨h2, h3⟩, h4⟩
      refine ⟨h1 x (.inl rfl), h4 x (.inl rfl), fun y hy => h1 y (.inr hy), h3, fun y hy h => ?_⟩
      rcases h with h | h | h
      · exact h4 y (.inr hy) h
      · exact h2 ⟨y, hy, h⟩
      · cases h
theorem sentB_iff (l : List Sn) : sentB l = true ↔ l.length ≤ 2000 ∧ (∀ x ∈ l, okSn x) ∧ (l.map (·.it)).Nodup := by
  unfold sentB
  rw [Bool.and_eq_true, decide_eq_true_eq, snB_iff]
  simp
theorem made_mem {l : List Th} {i : Nat} {y : Sn} (hl : i ≤ l.length) (h : y ∈ madeN l i) : ∃ j x, j < i ∧ l[j]? = some x ∧ y = mk1 j x := by
  unfold madeN at h
  rw [List.mem_map] at h
  obtain ⟨j, hj, rfl⟩ := h
  rw [List.mem_range] at hj
  obtain ⟨x, hx⟩ : ∃ x, l[j]? = some x := ⟨_, List.getElem?_eq_getElem (by omega)⟩
  exact ⟨j, x, hj, hx, by simp [List.getD, hx]⟩
theorem mk1_it (i : Nat) (x : Th) : (mk1 i x).it = 1 + i := by
  unfold mk1
  dsimp only
  split <;> rfl
theorem made_its (l : List Th) (i : Nat) : (madeN l i).map (·.it) = (List.range i).map fun j : Nat => 1 + (j : Int) := by
  unfold madeN
  rw [List.map_map]
  refine List.map_congr_left fun j _ => ?_
  exact mk1_it j _
theorem made_ok {l : List Th} (hok : ∀ x ∈ l, thOk x) : sentB (madeF l) = true ∧ ∀ y ∈ madeF l, okSn y ∧ y.ac ≤ 20000 := by
  have h0 : ∀ y ∈ madeF l, okSn y ∧ y.ac ≤ 20000 := fun y hy => by
    obtain ⟨j, x, hj, hx, rfl⟩ := made_mem (Nat.min_le_left _ _) hy
    have := mk1_ok j x (hok x (List.mem_of_getElem? hx)) (by omega)
    exact ⟨this.1, this.2.2⟩
  refine ⟨?_, h0⟩
  rw [sentB_iff]
  refine ⟨by unfold madeF; rw [madeN_len]; omega, fun y hy => (h0 y hy).1, ?_⟩
  unfold madeF
  rw [made_its]
  refine List.Pairwise.map _ (fun a b (h : a ≠ b) he => h (by omega)) List.nodup_range
theorem made_len (l : List Th) : (madeF l).length = min l.length 2000 := by unfold madeF; rw [madeN_len]
/-- A row, with its bounds. -/
def rowF (of : Sn → Lane) (l : List Sd) (s : List Sn) (now risk : Int) (k : Lane) : Rw := bndR (rowAt of (fun x => outF l x now) s k) risk
theorem msRows_eq (of : Sn → Lane) (l : List Sd) (s : List Sn) (now risk : Int) : msRows of l s now risk = (sortL (lanesO of s)).map (rowF of l s now risk) := rfl
end Go.Proofs.YtmakokbpadmfbaaGreat

/-
  service, plain: the sums of the rows of pairs are the rows of classes.
-/
namespace Go.Proofs.YtmakokbpadmfbaaGreat
open Go.RowKit Eng
set_option linter.unusedVariables false
set_option linter.unusedSimpArgs false
set_option maxHeartbeats 8000000
attribute [local irreducible] SC SQ J Qt Calls Iterates LSub FSub
def sumI (cl : Int) (f : Rw → Int) (P : List Rw) : Int := (P.map fun p => if p.cl = cl then f p else 0).sum
def sumR (cl : Int) (P : List Rw) : Rw := ⟨cl, 0, 0, sumI cl (·.tr) P, sumI cl (·.kp) P, sumI cl (·.op) P, sumI cl (·.ot) P, 0, 0⟩
section
variable {l : List Sd} {s : List Sn} {now risk : Int}
def metN (C P : List Rw) : Nat := (C.map fun c => P.countP fun p => decide (p.cl = c.cl)).sum
end
end Go.Proofs.YtmakokbpadmfbaaGreat

/-
  ServiceSums.
-/
namespace Go.Proofs.YtmakokbpadmfbaaGreat
open Go.RowKit Eng
set_option linter.unusedVariables false
set_option linter.unusedSimpArgs false
set_option maxHeartbeats 8000000
attribute [local irreducible] SC SQ J Qt Calls Iterates LSub FSub
theorem rows_len {of : Sn → Lane} {l : List Sd} {s : List Sn} {now risk : Int} : (msRows of l s now risk).length ≤ s.length := by
  rw [msRows_eq, List.length_map, (sortL_perm _).length_eq]
  exact lanesO_len s
end Go.Proofs.YtmakokbpadmfbaaGreat

/-
  ServiceWrong, plain: what each defect makes wrong.
-/
namespace Go.Proofs.YtmakokbpadmfbaaGreat
open Go.RowKit Eng
set_option linter.unusedVariables false
set_option linter.unusedSimpArgs false
set_option maxHeartbeats 8000000
attribute [local irreducible] SC SQ J Qt Calls Iterates LSub FSub
theorem judF_two (l : List Sd) (x : Sn) (now : Int) : ((judF l x now).2 = 2 ↔ ¬ (sdsB l = true ∧ sentB [x] = true ∧ timeI now)) ∧ ((judF l x now).2 = 2 → (judF l x now).1 = 0) := by
  unfold judF
  split
  · rename_i h
    exact ⟨⟨fun e => absurd (show (0 : Int) = 2 from e) (by decide), fun e => absurd h e⟩, fun e => absurd (show (0 : Int) = 2 from e) (by decide)⟩
  · rename_i h
    exact ⟨⟨fun _ => h, fun _ => rfl⟩, fun _ => rfl⟩
theorem msF_two (of : Sn → Lane) (l : List Sd) (s : List Sn) (now risk : Int) : ((msF of l s now risk).1 = 2 ↔ ¬ msOk l s now risk) ∧ ((msF of l s now risk).1 = 2 → (msF of l s now risk).2 = []) := by
  unfold msF
  split
  · rename_i h
    split
    · exact ⟨⟨fun e => absurd (show (3 : Int) = 2 from e) (by decide), fun e => absurd h e⟩, fun e => absurd (show (3 : Int) = 2 from e) (by decide)⟩
    · exact ⟨⟨fun e => absurd (show (0 : Int) = 2 from e) (by decide), fun e => absurd h e⟩, fun e => absurd (show (0 : Int) = 2 from e) (by decide)⟩
  · rename_i h
    exact ⟨⟨fun _ => h, fun _ => rfl⟩, fun _ => rfl⟩
theorem trF_two (s : List Sn) (cl fr to now q : Int) : ((trF s cl fr to now q).2 = 2 ↔ ¬ trOk s now q) ∧ ((trF s cl fr to now q).2 = 2 → (trF s cl fr to now q).1 = 0) := by
  unfold trF
  split
  · rename_i h
    split
    · exact ⟨⟨fun e => absurd (show (6 : Int) = 2 from e) (by decide), fun e => absurd h e⟩, fun e => absurd (show (6 : Int) = 2 from e) (by decide)⟩
    · exact ⟨⟨fun e => absurd (show (0 : Int) = 2 from e) (by decide), fun e => absurd h e⟩, fun e => absurd (show (0 : Int) = 2 from e) (by decide)⟩
  · rename_i h
    exact ⟨⟨fun _ => h, fun _ => rfl⟩, fun _ => rfl⟩
theorem verF_low (r : Rw) {t : Int} (h : t < 0 ∨ 10000 < t) : verF r t = (0, 2) := by
  unfold verF
  rw [if_neg (by omega)]
/-- A case: what stands behind the switch. -/
structure Wd where
  l : List Sd
  x : Sn
  s : List Sn
  now : Int
  risk : Int
  q : Int
  J : Bool
  M : Bool
  T : Bool
structure Wd.Ok (d : Wd) : Prop where
  len : d.l.length = 4
  slen : d.s.length ≤ 21
  now : -9223372036854775808 ≤ d.now ∧ d.now ≤ 9223372036854775807
  ac : 0 ≤ d.x.ac ∧ d.x.ac ≤ 20000
  j : d.J = !decide (sdsB d.l = true ∧ sentB [d.x] = true ∧ timeI d.now)
  m : d.M = !decide (msOk d.l (d.x :: d.s) d.now d.risk)
  t : d.T = !decide (trOk (d.x :: d.s) d.now d.q)
def thZ : Th := ⟨0, 0, 0, false⟩
def snZ : Sn := ⟨1, 1, 1, 2, 0, -1⟩
def sdsW : List Sd := [⟨1, 1, 2, 1000⟩, ⟨1, 1, 2, 1000⟩, ⟨2, 1, 3, 4000⟩, ⟨2, 2, 3, 0⟩]
theorem sent_fst {x : Sn} {s : List Sn} (h : sentB (x :: s) = true) : sentB [x] = true := by
  rw [sentB_iff] at h ⊢
  obtain ⟨_, h2, _⟩ := h
  exact ⟨by simp, fun y hy => h2 y (List.mem_cons.2 (.inl (List.mem_singleton.1 hy))), by simp⟩
theorem made_cons (l : List Th) (h : l.length < 2000) : ∃ s, madeF (thZ :: l) = snZ :: s := by
  unfold madeF
  rw [show min (thZ :: l).length 2000 = l.length + 1 from by rw [List.length_cons]; omega]
  unfold madeN
  rw [List.range_succ_eq_map, List.map_cons]
  exact ⟨_, rfl⟩
theorem sdsW_no : sdsB sdsW = false := by decide +kernel
theorem wd0 {s : List Sn} (hs : sentB (snZ :: s) = true) (hn : s.length ≤ 20) : Wd.Ok ⟨sdsW, snZ, s, 100, 500, 5000, true, true, false⟩ where
  len := rfl
  slen := Nat.le_succ_of_le hn
  now := ⟨show (-9223372036854775808 : Int) ≤ 100 by decide, show (100 : Int) ≤ 9223372036854775807 by decide⟩
  ac := ⟨show (0 : Int) ≤ 0 by decide, show (0 : Int) ≤ 20000 by decide⟩
  j := by dsimp only; rw [decide_eq_false (fun h => by rw [sdsW_no] at h; exact absurd h.1 (by decide))]; rfl
  m := by dsimp only; rw [decide_eq_false (fun h => by unfold msOk at h; rw [sdsW_no] at h; exact absurd h.1 (by decide))]; rfl
  t := by dsimp only; rw [decide_eq_true ⟨hs, ⟨by decide, by decide⟩, by decide, by decide⟩]; rfl
theorem sent_no (s : List Sn) : sentB ({ snZ with cl := 0 } :: s) = false := by
  rw [Bool.eq_false_iff, Ne, sentB_iff]
  rintro ⟨_, h, _⟩
  have := h _ (List.mem_cons_self ..)
  unfold okSn at this
  exact absurd this.1 (by decide)
theorem sent_no1 : sentB [{ snZ with cl := 0 }] = false := by decide +kernel
theorem wd1 {s : List Sn} (hn : s.length ≤ 20) : Wd.Ok ⟨std4, { snZ with cl := 0 }, s, 100, 500, 5000, true, true, true⟩ where
  len := rfl
  slen := Nat.le_succ_of_le hn
  now := ⟨show (-9223372036854775808 : Int) ≤ 100 by decide, show (100 : Int) ≤ 9223372036854775807 by decide⟩
  ac := ⟨show (0 : Int) ≤ 0 by decide, show (0 : Int) ≤ 20000 by decide⟩
  j := by dsimp only; rw [decide_eq_false (fun h => by rw [sent_no1] at h; exact absurd h.2.1 (by decide))]; rfl
  m := by dsimp only; rw [decide_eq_false (fun h => by unfold msOk at h; rw [sent_no s] at h; exact absurd h.2.1 (by decide))]; rfl
  t := by dsimp only; rw [decide_eq_false (fun h => by unfold trOk at h; rw [sent_no s] at h; exact absurd h.1 (by decide))]; rfl
theorem wd23 {s : List Sn} (hn : s.length ≤ 20) {now : Int} (h9 : -9223372036854775808 ≤ now ∧ now ≤ 9223372036854775807) (ht : ¬ timeI now) : Wd.Ok ⟨std4, snZ, s, now, 500, 5000, true, true, true⟩ where
  len := rfl
  slen := Nat.le_succ_of_le hn
  now := h9
  ac := ⟨show (0 : Int) ≤ 0 by decide, show (0 : Int) ≤ 20000 by decide⟩
  j := by dsimp only; rw [decide_eq_false (fun h => ht h.2.2)]; rfl
  m := by dsimp only; rw [decide_eq_false (fun h => ht h.2.2.1)]; rfl
  t := by dsimp only; rw [decide_eq_false (fun h => ht h.2.1)]; rfl
theorem wd4 {s : List Sn} (hs : sentB (snZ :: s) = true) (hn : s.length ≤ 20) {risk : Int} (ht : 2000 < risk) : Wd.Ok ⟨std4, snZ, s, 100, risk, 5000, false, true, false⟩ where
  len := rfl
  slen := Nat.le_succ_of_le hn
  now := ⟨show (-9223372036854775808 : Int) ≤ 100 by decide, show (100 : Int) ≤ 9223372036854775807 by decide⟩
  ac := ⟨show (0 : Int) ≤ 0 by decide, show (0 : Int) ≤ 20000 by decide⟩
  j := by dsimp only; rw [decide_eq_true ⟨std4_ok, sent_fst hs, by decide, by decide⟩]; rfl
  m := by dsimp only; rw [decide_eq_false (fun h => by have := h.2.2.2.2; omega)]; rfl
  t := by dsimp only; rw [decide_eq_true ⟨hs, ⟨by decide, by decide⟩, by decide, by decide⟩]; rfl
theorem wd5 {s : List Sn} (hs : sentB (snZ :: s) = true) (hn : s.length ≤ 20) {q : Int} (ht : 10000 < q) : Wd.Ok ⟨std4, snZ, s, 100, 500, q, false, false, true⟩ where
  len := rfl
  slen := Nat.le_succ_of_le hn
  now := ⟨show (-9223372036854775808 : Int) ≤ 100 by decide, show (100 : Int) ≤ 9223372036854775807 by decide⟩
  ac := ⟨show (0 : Int) ≤ 0 by decide, show (0 : Int) ≤ 20000 by decide⟩
  j := by dsimp only; rw [decide_eq_true ⟨std4_ok, sent_fst hs, by decide, by decide⟩]; rfl
  m := by dsimp only; rw [decide_eq_true ⟨std4_ok, hs, ⟨by decide, by decide⟩, by decide, by decide⟩]; rfl
  t := by dsimp only; rw [decide_eq_false (fun h => by have := h.2.2.2; omega)]; rfl
theorem sent_two (t : List Sn) : sentB (snZ :: (t ++ [snZ])) = false := by
  rw [Bool.eq_false_iff, Ne, sentB_iff]
  rintro ⟨_, _, h⟩
  simp at h
theorem wd6 {s : List Sn} (hs : sentB (snZ :: s) = true) (hn : s.length ≤ 20) : Wd.Ok ⟨std4, snZ, s ++ [snZ], 100, 500, 5000, false, true, true⟩ where
  len := rfl
  slen := by rw [List.length_append, List.length_singleton]; exact Nat.succ_le_succ hn
  now := ⟨show (-9223372036854775808 : Int) ≤ 100 by decide, show (100 : Int) ≤ 9223372036854775807 by decide⟩
  ac := ⟨show (0 : Int) ≤ 0 by decide, show (0 : Int) ≤ 20000 by decide⟩
  j := by dsimp only; rw [decide_eq_true ⟨std4_ok, sent_fst hs, by decide, by decide⟩]; rfl
  m := by dsimp only; rw [decide_eq_false (fun h => by unfold msOk at h; rw [sent_two s] at h; exact absurd h.2.1 (by decide))]; rfl
  t := by dsimp only; rw [decide_eq_false (fun h => by unfold trOk at h; rw [sent_two s] at h; exact absurd h.1 (by decide))]; rfl
theorem flag {p q : Prop} [Decidable p] [Decidable q] (h : p ↔ ¬ q) : (!decide q) = decide p := by
  by_cases hq : q
  · rw [decide_eq_true hq, decide_eq_false (fun hp => h.1 hp hq)]; rfl
  · rw [decide_eq_false hq, decide_eq_true (h.2 hq)]; rfl
theorem Wd.Ok.flags {d : Wd} (h : d.Ok) : d.J = decide ((judF d.l d.x d.now).2 = 2) ∧ d.M = decide ((msF ofM d.l (d.x :: d.s) d.now d.risk).1 = 2) ∧ d.T = decide ((trF (d.x :: d.s) 1 1 2 d.now d.q).2 = 2) ∧
    ((msF ofM d.l (d.x :: d.s) d.now d.risk).1 = 2 ↔ (msF ofC d.l (d.x :: d.s) d.now d.risk).1 = 2) := by
  refine ⟨?_, ?_, ?_, ?_⟩
  · rw [h.j]; exact flag (judF_two ..).1
  · rw [h.m]; exact flag (msF_two ..).1
  · rw [h.t]; exact flag (trF_two ..).1
  · rw [(msF_two ..).1, (msF_two ..).1]
theorem msF_len (of : Sn → Lane) (l : List Sd) (s : List Sn) (now risk : Int) : (msF of l s now risk).2.length ≤ s.length := by
  unfold msF
  split
  · split
    · exact Nat.zero_le _
    · exact rows_len
  · exact Nat.zero_le _
end Go.Proofs.YtmakokbpadmfbaaGreat

/-
  ServiceWrong.
-/
namespace Go.Proofs.YtmakokbpadmfbaaGreat
open Go.RowKit Eng
set_option linter.unusedVariables false
set_option linter.unusedSimpArgs false
set_option maxHeartbeats 8000000
attribute [local irreducible] SC SQ J Qt Calls Iterates LSub FSub
theorem nb9 {a c : Bool} (h : a = c) : (!(a == c)) = false := by subst h; simp
theorem sc_join3 {α : Type} {C : Cx} {c : Code} {K : List KI} (F' : α → Fr) (L' : α → List HA) {G : Prop} (body : ∀ x, SC C c K (F' x) (L' x)) (main : (∀ x, SC C c K (F' x) (L' x)) → G) : G := main body
set_option maxRecDepth 8000 in
set_option maxHeartbeats 16000000 in
theorem Wrong_c (A : Option Addr) (c : Nat) (l0 : List Th) (y n0 : Int) (w : World) (hsl : Sl A l0.length c) (hR : RS w 4 thC A l0) (hok : ∀ x ∈ l0, thOk x) (hy : 0 ≤ y ∧ y ≤ 255) (hn0 : inI n0) :
    Calls Tryz.prog 4 #[.slice A l0.length c, .int .u8 y, .int .i64 n0] w fun e w' => e = .returned (.bool true) ∧ Below w.heap.size w w' := by
  obtain ⟨N, hN⟩ : ∃ N : Nat, N = min l0.length 20 := ⟨_, rfl⟩
  have hN2 : (if (20 : Int) < l0.length then (20 : Int) else l0.length) = (N : Int) := by split <;> omega
  have hR2 := RS.take hR N
  have hok2 : ∀ x ∈ l0.take N, thOk x := fun x hx => hok x (List.mem_of_mem_take hx)
  have hlen : (l0.take N).length = N := by rw [List.length_take]; omega
  have hNl : N ≤ l0.length := by omega
  generalize hl : l0.take N = l at *
  have hre := fun w' (h : RS w' 4 thC A l) => reads_ext (f := thC) (sz := 4) (c := c) (fun _ => rfl) (fun _ => rfl) h (fun e => by
    have := hsl.nil e
    exact ⟨List.length_eq_zero_iff.1 (by omega), this.2⟩)
  rw [hlen] at hre
  have hok3 : ∀ y ∈ thZ :: l, thOk y := fun y hy => by
    rcases List.mem_cons.1 hy with rfl | h
    · unfold thOk thZ; decide
    · exact hok2 y h
  have hmk := fun A c w' h => made_c A c (thZ :: l) w' (by simp; omega) hok3 h
  have hmo := (made_ok hok3).1
  have hml := made_len (thZ :: l)
  obtain ⟨s, hs⟩ := made_cons l (by omega)
  rw [hs] at hmk hmo hml
  rw [List.length_cons, List.length_cons, hlen] at hml
  have hsl2 : s.length ≤ 20 := by omega
  obtain ⟨ns, hns⟩ : ∃ n, n = s.length := ⟨_, rfl⟩
  rw [List.length_cons, hlen, List.length_cons, ← hns] at hmk
  have hp3 := fun w' => pick_c n0 1099511627776 w' hn0 (by omega)
  have hz2 : 0 ≤ n0 % 1099511627776 ∧ n0 % 1099511627776 < 1099511627776 := ⟨Int.emod_nonneg _ (by omega), Int.emod_lt_of_pos _ (by omega)⟩
  generalize n0 % 1099511627776 = be at *
  have hy7 : 0 ≤ y % 7 ∧ y % 7 < 7 := ⟨Int.emod_nonneg _ (by omega), Int.emod_lt_of_pos _ (by omega)⟩
  refine eng_start (n := 182) (args := [.slice A l0.length c, .int .u8 y, .int .i64 n0]) tab tab_ok fns fns_ok [.tmp 6] Tryz.func4 rfl rfl rfl rfl ?_
  apply sc_join3 (α := ((Addr × Nat) × (Addr × Nat)) × {d : Wd × Nat // d.1.Ok ∧ d.2 = d.1.s.length + 1}) (fun x => [(7, .slice (some x.1.1.1) 4 x.1.1.2), (8, .slice (some x.1.2.1) (x.2.1.2) x.1.2.2), (9, .int .i64 (1 + be)), (10, .int .i64 x.2.1.1.now), (11, .int .i64 x.2.1.1.risk), (12, .int .i64 x.2.1.1.q), (13, .bool x.2.1.1.J), (14, .bool x.2.1.1.M), (15, .bool x.2.1.1.T)])
    (fun x => [.own (.slice (some x.1.1.1) 4 x.1.1.2) 43 4 4 (x.2.1.1.l.flatMap sdC), .own (.slice (some x.1.2.1) (x.2.1.2) x.1.2.2) 45 6 x.2.1.2 ((x.2.1.1.x :: x.2.1.1.s).flatMap snC)])
  case main =>
    intro key
    repeat' (first | (refine gJ ?_; first | refine js rfl rfl rfl rfl ?_ | refine jar rfl rfl rfl rfl rfl rfl rfl (by omega) ?_ | (refine gcall rfl rfl ?_; first | (refine j_qc (f := 13) rfl rfl rfl rfl rfl rfl rfl ?_; refine ⟨_, (fun w' _ => awake_c w'), ?_⟩) | (refine j_qc (f := 16) rfl rfl rfl rfl rfl rfl rfl ?_; refine ⟨_, (fun w' _ => hp3 w'), ?_⟩)) | (refine j_qe rfl rfl rfl ?_; refine ⟨_, q_minr rfl rfl rfl hN2, ?_⟩) | (refine j_qe rfl rfl rfl ?_; refine ⟨_, q_sliceHi N rfl rfl rfl rfl rfl (by have := hsl.le; omega), ?_⟩) | (refine j_lit 4 (n := 1) (cs := thC thZ) (by (repeat constructor)) rfl (by decide) ?_; refine j_appendS (cs := l.flatMap thC) (n := 1) (A := A) (k := N) (c := c) rfl rfl rfl rfl rfl rfl rfl rfl rfl rfl rfl (fun w' hs => hre w' (hR2.st hs)) (by (repeat constructor)) (by omega) (fun _ => by (repeat constructor)) ?_; intro v9; refine j_ownp (v := v9) (by (repeat constructor)) (by omega) ?_; rintro a0 c0 rfl _) | (refine gcall rfl rfl ?_; refine gF ?_; refine j_callN (f := 14) rfl rfl rfl rfl rfl rfl rfl (fun x : Value × Value => .tuple #[x.1, x.2]) (fun _ => True) (fun x => [.own x.1 43 4 4 (std4.flatMap sdC), .own x.2 45 6 (ns + 1) ((snZ :: s).flatMap snC)]) (fun w' hs => Nat.add_comm N 1 ▸ hmk (some a0) c0 w' (rs_own (f := thC) (l := thZ :: l) (fun _ => rfl) hs (by (repeat constructor)) (by rw [List.length_cons]; omega) rfl)) (fun _ => trivial) ?_; rintro ⟨v1, v2⟩ _; refine j_ownp (v := v1) (by (repeat constructor)) (by omega) ?_; rintro a1 c1 rfl hs1; refine j_ownp (v := v2) (by (repeat constructor)) (by omega) ?_; rintro a2 c2 rfl hs2) | (refine j_qe rfl rfl rfl ?_; refine ⟨_, q_neg (r := -(1 + be)) rfl rfl (i64_wrap (by omega) (by omega)), ?_⟩) | (refine j_qe rfl rfl rfl ?_; refine ⟨_, q_index_at 0 rfl rfl rfl rfl rfl (by omega), ?_⟩) | (refine j_qe rfl rfl rfl ?_; refine ⟨_, q_index_at 1 rfl rfl rfl rfl rfl (by omega), ?_⟩) | (refine j_qe rfl rfl rfl ?_; refine ⟨_, q_rowA (f := sdC) (l := std4) (i := 0) rfl rfl rfl rfl (by (repeat constructor)) (fun _ => rfl) (show std4[0]? = some ⟨1, 1, 2, 1000⟩ from rfl) rfl, ?_⟩) | (refine j_qe rfl rfl rfl ?_; refine ⟨_, q_rowA (f := snC) (l := snZ :: s) (i := 0) rfl rfl rfl rfl (by (repeat constructor)) (fun _ => rfl) (show (snZ :: s)[0]? = some snZ from rfl) rfl, ?_⟩) | (refine gF ?_; refine j_store_el (f := sdC) (l := std4) 1 ⟨1, 1, 2, 1000⟩ rfl rfl rfl rfl rfl rfl rfl rfl (by (repeat constructor)) (fun _ => rfl) (by decide) rfl (by (repeat constructor)) ?_) | (refine gF ?_; refine j_store_rowF (f := snC) (l := snZ :: s) (i := 0) (off := 1) (z := snZ) (z' := { snZ with cl := 0 }) rfl rfl rfl rfl rfl rfl rfl rfl (by (repeat constructor)) (fun _ => rfl) rfl rfl (by rfl) (by (repeat constructor)) ?_) | (refine gF ?_; refine j_append rfl rfl rfl rfl rfl rfl rfl rfl rfl rfl rfl (by (repeat constructor)) (by (repeat constructor)) (by rfl) (by rfl) (by omega) (fun _ => by (repeat constructor)) ?_; intro v7; refine j_ownp (v := v7) (by (repeat constructor)) (by omega) ?_; rintro a3 c3 rfl hs3) | (refine gF ?_; (refine j_buildSlice rfl rfl rfl rfl rfl rfl rfl rfl rfl rfl rfl rfl ?_; intro b)) | (refine j_qe rfl rfl rfl ?_; first | refine ⟨_, q_len_slice rfl rfl rfl rfl, ?_⟩ | refine ⟨_, q_build_struct rfl rfl rfl rfl rfl, ?_⟩ | refine ⟨_, q_field_ext rfl rfl rfl rfl rfl, ?_⟩ | refine ⟨_, q_rem rfl rfl rfl (by omega), ?_⟩)) | (refine gSC ?_; first | refine sc_stop 25 ?_ | refine sc_mv rfl ?_ | refine sc_q rfl ?_ | refine sc_region ?_) | (refine gSQ ?_; first | refine sq_go rfl ?_ | refine sq_mv rfl ?_) | refine j_nil ?_ | ((refine sc_cond rfl ?_ ?_) <;> intro hc <;> (first | exact absurd hc (by decide) | ((try simp only [engHC] at hc) <;> skip))))
    · exact stop_at _ _ (key (((a1, c1), (a2, c2)), ⟨(⟨sdsW, snZ, s, 100, 500, 5000, true, true, false⟩, ns + 1), wd0 hmo hsl2, by rw [hns]⟩)) (by (try dsimp only); exact (by repeat (first | exact FSub.nil | refine FSub.cons rfl ?_ | refine FSub.conse rfl (by congr 1; omega) ?_))) (by repeat (first | exact LSub.refl | refine LSub.cons (by repeat (first | exact Rem.here | apply Rem.there)) ?_ | apply LSub.skip))
    · exact stop_at _ _ (key (((a1, c1), (a2, c2)), ⟨(⟨std4, { snZ with cl := 0 }, s, 100, 500, 5000, true, true, true⟩, ns + 1), wd1 hsl2, by rw [hns]⟩)) (by (try dsimp only); exact (by repeat (first | exact FSub.nil | refine FSub.cons rfl ?_ | refine FSub.conse rfl (by congr 1; omega) ?_))) (by repeat (first | exact LSub.refl | refine LSub.cons (by repeat (first | exact Rem.here | apply Rem.there)) ?_ | apply LSub.skip))
    · exact stop_at _ _ (key (((a1, c1), (a2, c2)), ⟨(⟨std4, snZ, s, -(1 + be), 500, 5000, true, true, true⟩, ns + 1), wd23 hsl2 (by omega) (by unfold timeI; omega), by rw [hns]⟩)) (by (try dsimp only); exact (by repeat (first | exact FSub.nil | refine FSub.cons rfl ?_ | refine FSub.conse rfl (by congr 1; omega) ?_))) (by repeat (first | exact LSub.refl | refine LSub.cons (by repeat (first | exact Rem.here | apply Rem.there)) ?_ | apply LSub.skip))
    · exact stop_at _ _ (key (((a1, c1), (a2, c2)), ⟨(⟨std4, snZ, s, 1051898399 + (1 + be), 500, 5000, true, true, true⟩, ns + 1), wd23 hsl2 (by omega) (by unfold timeI; omega), by rw [hns]⟩)) (by (try dsimp only); exact (by repeat (first | exact FSub.nil | refine FSub.cons rfl ?_ | refine FSub.conse rfl (by congr 1; omega) ?_))) (by repeat (first | exact LSub.refl | refine LSub.cons (by repeat (first | exact Rem.here | apply Rem.there)) ?_ | apply LSub.skip))
    · exact stop_at _ _ (key (((a1, c1), (a2, c2)), ⟨(⟨std4, snZ, s, 100, 2000 + (1 + be), 5000, false, true, false⟩, ns + 1), wd4 hmo hsl2 (by omega), by rw [hns]⟩)) (by (try dsimp only); exact (by repeat (first | exact FSub.nil | refine FSub.cons rfl ?_ | refine FSub.conse rfl (by congr 1; omega) ?_))) (by repeat (first | exact LSub.refl | refine LSub.cons (by repeat (first | exact Rem.here | apply Rem.there)) ?_ | apply LSub.skip))
    · exact stop_at _ _ (key (((a1, c1), (a2, c2)), ⟨(⟨std4, snZ, s, 100, 500, 10000 + (1 + be), false, false, true⟩, ns + 1), wd5 hmo hsl2 (by omega), by rw [hns]⟩)) (by (try dsimp only); exact (by repeat (first | exact FSub.nil | refine FSub.cons rfl ?_ | refine FSub.conse rfl (by congr 1; omega) ?_))) (by repeat (first | exact LSub.refl | refine LSub.cons (by repeat (first | exact Rem.here | apply Rem.there)) ?_ | apply LSub.skip))
    · have k9 := key (((a1, c1), (a3, c3)), ⟨(⟨std4, snZ, s ++ [snZ], 100, 500, 5000, false, true, true⟩, ns + 1 + 1), wd6 hmo hsl2, by rw [List.length_append, List.length_singleton, hns]⟩)
      dsimp only at k9
      rw [show (snZ :: (s ++ [snZ])).flatMap snC = (snZ :: s).flatMap snC ++ snC snZ from by simp] at k9
      exact stop_at _ _ k9 (by (try dsimp only); exact (by repeat (first | exact FSub.nil | refine FSub.cons rfl ?_ | refine FSub.conse rfl (by congr 1; omega) ?_))) (by repeat (first | exact LSub.refl | refine LSub.cons (by repeat (first | exact Rem.here | apply Rem.there)) ?_ | apply LSub.skip))
  case body =>
    rintro ⟨⟨⟨a1, c1⟩, ⟨a2, c2⟩⟩, ⟨⟨d, n9⟩, hd, hn9⟩⟩
    dsimp only at hd hn9 ⊢
    obtain ⟨f1, f2, f3, f4⟩ := hd.flags
    have hll := hd.len
    have hss := hd.slen
    have hnow := hd.now
    have hac := hd.ac
    rw [f1, f2, f3]
    obtain ⟨l', x, s', now, risk, q, J9, M9, T9⟩ := d
    dsimp only at *
    have hJ := fun A c w' h => Judge_c A c l' x now w' (by omega) (by omega) h
    have hM := fun A c B bc w' h h2 => Measure_c A c l' B bc (x :: s') now risk w' (by omega) (by rw [List.length_cons]; omega) h h2
    have hC := fun A c B bc w' h h2 => Classes_c A c l' B bc (x :: s') now risk w' (by omega) (by rw [List.length_cons]; omega) h h2
    have hT := fun B bc w' h2 => Transit_c B bc (x :: s') 1 1 2 now q w' (by rw [List.length_cons]; omega) h2
    have z1 := (judF_two l' x now).2
    have z2 := (msF_two ofM l' (x :: s') now risk).2
    have z3 := (msF_two ofC l' (x :: s') now risk).2
    have z4 := (trF_two (x :: s') 1 1 2 now q).2
    have y2 := msF_len ofM l' (x :: s') now risk
    have y3 := msF_len ofC l' (x :: s') now risk
    generalize judF l' x now = ja at *
    generalize msF ofM l' (x :: s') now risk = jb at *
    generalize msF ofC l' (x :: s') now risk = jc at *
    generalize trF (x :: s') 1 1 2 now q = jd at *
    obtain ⟨ja1, ja2⟩ := ja
    obtain ⟨jb1, jb2⟩ := jb
    obtain ⟨jc1, jc2⟩ := jc
    obtain ⟨jd1, jd2⟩ := jd
    dsimp only at *
    obtain ⟨nb, hnb⟩ : ∃ n, n = jb2.length := ⟨_, rfl⟩
    obtain ⟨nc, hnc⟩ : ∃ n, n = jc2.length := ⟨_, rfl⟩
    rw [← hnb] at hM y2
    rw [← hnc] at hC y3
    have z2' : jb1 = 2 → nb = 0 := fun h => by rw [hnb, z2 h]; rfl
    have z3' : jb1 = 2 → nc = 0 := fun h => by rw [hnc, z3 (f4.1 h)]; rfl
    rw [List.length_cons, ← hn9] at y2 y3 hM hC hT
    rw [hll] at hJ hM hC
    clear f1 f2 f3 z2 z3 hd
    have hv1 := fun w' => Verdict_c ⟨0, 0, 0, 0, 0, 0, 0, 0, 0⟩ (-(1 + be)) w'
    have hv2 := fun w' => Verdict_c ⟨0, 0, 0, 0, 0, 0, 0, 0, 0⟩ (10000 + (1 + be)) w'
    rw [verF_low _ (by omega)] at hv1 hv2
    dsimp only at hv1 hv2
    repeat' (first | (refine gJ ?_; first | refine js rfl rfl rfl rfl ?_ | refine jar rfl rfl rfl rfl rfl rfl rfl (by omega) ?_ | (refine gcall rfl rfl ?_; first | (refine j_qc (f := 21) rfl rfl rfl rfl rfl rfl rfl ?_; refine ⟨_, (fun w' hs => hJ (some a1) c1 w' (rs_own (f := sdC) (fun _ => rfl) hs (by (repeat constructor)) hll.symm rfl)), ?_⟩) | (refine j_qc (f := 22) rfl rfl rfl rfl rfl rfl rfl ?_; refine ⟨_, (fun w' hs => hT (some a2) c2 w' (rs_own (f := snC) (l := x :: s') (fun _ => rfl) hs (by (repeat constructor)) (by rw [List.length_cons]; exact hn9) rfl)), ?_⟩) | (refine j_qc (f := 23) rfl rfl rfl rfl rfl rfl rfl ?_; refine ⟨_, (fun w' _ => hv1 w'), ?_⟩) | (refine j_qc (f := 23) rfl rfl rfl rfl rfl rfl rfl ?_; refine ⟨_, (fun w' _ => hv2 w'), ?_⟩)) | (refine j_qe rfl rfl rfl ?_; refine ⟨_, q_neg (r := -(1 + be)) rfl rfl (i64_wrap (by omega) (by omega)), ?_⟩) | (refine j_qe rfl rfl rfl ?_; refine ⟨_, q_index_at 0 rfl rfl rfl rfl rfl (by omega), ?_⟩) | (refine j_qe rfl rfl rfl ?_; refine ⟨_, q_rowA (f := snC) (l := x :: s') (i := 0) rfl rfl rfl rfl (by (repeat constructor)) (fun _ => rfl) (show (x :: s')[0]? = some x from rfl) rfl, ?_⟩) | (refine gcall rfl rfl ?_; refine gF ?_; refine j_callN (f := 17) rfl rfl rfl rfl rfl rfl rfl (fun v => .tuple #[v, .int .i64 jb1]) (fun _ => True) (fun v => [.own v 35 9 nb (jb2.flatMap rwC)]) (fun w' hs => hM (some a1) c1 (some a2) c2 w' (rs_own (f := sdC) (fun _ => rfl) hs (by (repeat constructor)) hll.symm rfl) (rs_own (f := snC) (l := x :: s') (fun _ => rfl) hs (by (repeat constructor)) (by rw [List.length_cons]; exact hn9) rfl)) (fun _ => trivial) ?_; rintro v3 _; refine j_owns (v := v3) (by (repeat constructor)) ?_; rintro a3 c3 rfl hs3) | (refine gcall rfl rfl ?_; refine gF ?_; refine j_callN (f := 18) rfl rfl rfl rfl rfl rfl rfl (fun v => .tuple #[v, .int .i64 jc1]) (fun _ => True) (fun v => [.own v 35 9 nc (jc2.flatMap rwC)]) (fun w' hs => hC (some a1) c1 (some a2) c2 w' (rs_own (f := sdC) (fun _ => rfl) hs (by (repeat constructor)) hll.symm rfl) (rs_own (f := snC) (l := x :: s') (fun _ => rfl) hs (by (repeat constructor)) (by rw [List.length_cons]; exact hn9) rfl)) (fun _ => trivial) ?_; rintro v4 _; refine j_owns (v := v4) (by (repeat constructor)) ?_; rintro a4 c4 rfl hs4) | (refine j_qe rfl rfl rfl ?_; refine ⟨_, q_neqbr false rfl Tryz.underlying4 rfl rfl (nb9 rfl), ?_⟩) | (refine j_qe rfl rfl rfl ?_; refine ⟨_, q_neqbr false rfl Tryz.underlying4 rfl rfl (nb9 (decide_eq_decide.2 f4.symm)), ?_⟩) | (refine j_qe rfl rfl rfl ?_; first | refine ⟨_, q_len_slice rfl rfl rfl rfl, ?_⟩ | refine ⟨_, q_build_struct rfl rfl rfl rfl rfl, ?_⟩ | refine ⟨_, q_addu8 rfl rfl rfl (by omega), ?_⟩)) | (refine gSC ?_; first | refine sc_mv rfl ?_ | refine sc_q rfl ?_ | refine sc_region ?_) | (refine gSQ ?_; first | refine sq_go rfl ?_ | refine sq_ende (by first | exact .inl rfl | exact .inr rfl) rfl rfl ⟨_, (RVs.cons (RV.tmp rfl) (RVs.nil)), ?_⟩) | refine j_nil ?_ | ((first | refine j_guard rfl rfl rfl rfl rfl ?_ ?_ | refine sc_cond rfl ?_ ?_) <;> intro hc <;> (first | exact absurd hc (by decide) | ((try simp only [engHC] at hc) <;> first | (exfalso; omega) | skip))))
    all_goals (intro w' hS; refine ⟨?_, hS.below⟩; simp only [pack])
    all_goals exact rb (by simp)
end Go.Proofs.YtmakokbpadmfbaaGreat
