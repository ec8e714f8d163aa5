/-
  In one text: Mad, Tra, Aw41, Lat, Mds, Odp, Sup, Sms, Odr.
-/
import Derived.Test.YtmakokbpadmfbaaGreatMe4
import Derived.Test.YtmakokbpadmfbaaGreatEngCoreB
/-
  The items that are made.
-/
namespace Go.Proofs.YtmakokbpadmfbaaGreat
open Go.RowKit Eng
set_option linter.unusedVariables false
set_option linter.unusedSimpArgs false
set_option maxHeartbeats 8000000
attribute [local irreducible] SC SQ J Qt Calls Iterates LSub FSub
set_option maxHeartbeats 8000000 in
theorem made_c (A : Option Addr) (c : Nat) (l : List Th) (w : World) (hl : l.length ≤ 9223372036854775807) (hok : ∀ x ∈ l, thOk x) (h : RS w 4 thC A l) :
    Calls Tryz.prog 14 #[.slice A l.length c] w fun e w' => ∃ x : Value × Value, True ∧ e = .returned (.tuple #[x.1, x.2]) ∧ St w Cold [.own x.1 43 4 4 (std4.flatMap sdC), .own x.2 45 6 (madeF l).length ((madeF l).flatMap snC)] w' := by
  have hml := fun i => madeN_len l i
  have hms := fun i x (hx : l[i]? = some x) => madeN_succ hx
  have hfin : ∀ i, (i = l.length ∧ i ≤ 2000) ∨ (i = 2000 ∧ i ≤ l.length) → madeN l i = madeF l := fun i hi => by
    unfold madeF
    congr 1
    omega
  generalize hn : l.length = n at *
  refine eng_start (n := 85) (args := [.slice A n c]) tab tab_ok fns fns_ok [.tmp 2, .tmp 3] Tryz.func14 rfl rfl rfl rfl ?_
  repeat' (first | (refine gJ ?_; first | refine js rfl rfl rfl rfl ?_ | (refine gF ?_; (refine j_buildSlice rfl rfl rfl rfl rfl rfl rfl rfl rfl rfl rfl rfl ?_; intro b)) | (refine j_qe rfl rfl rfl ?_; refine ⟨_, q_build_struct rfl rfl rfl rfl rfl, ?_⟩)) | (refine gSC ?_; first | refine sc_mv rfl ?_ | refine sc_region ?_) | (refine gSQ ?_; refine sq_go rfl ?_) | refine j_nil ?_)
  refine sc_lit 4 (n := 4) (by (repeat constructor)) rfl (by omega) ?_
  refine sc_own_nil_at 45 6 ?_
  refine sc_loop (ι := Nat × Value) (fun i => i.1 ≤ n ∧ i.1 ≤ 2000) (fun i => n - i.1) (fun i => [(0, .slice A n c), (4, .slice (some ⟨b, 0, none⟩) 4 4), (5, i.2), (6, .int .i64 i.1)]) (fun i => [.own i.2 45 6 i.1 ((madeN l i.1).flatMap snC), .own (.slice (some ⟨b, 0, none⟩) 4 4) 43 4 4 (std4.flatMap sdC)]) (0, .slice none 0 0) ⟨Nat.zero_le _, Nat.zero_le _⟩ (by (try dsimp only); exact (by repeat (first | exact FSub.nil | refine FSub.cons rfl ?_ | refine FSub.conse rfl (by congr 1; omega) ?_))) (by repeat (first | exact LSub.refl | refine LSub.cons (by repeat (first | exact Rem.here | apply Rem.there)) ?_ | apply LSub.skip)) ?_
  rintro ⟨i, v0⟩ ⟨hi, hi2⟩
  dsimp only at hi hi2 ⊢
  revert b; intro b4
  by_cases hlt : i < n ∧ i < 2000
  · obtain ⟨hlt, hlt2⟩ := hlt
    obtain ⟨x, hx⟩ : ∃ x, l[i]? = some x := ⟨_, List.getElem?_eq_getElem (by omega)⟩
    obtain ⟨ad, rfl, hX⟩ := h i x hx
    obtain ⟨⟨p1, p2⟩, ⟨p3, p4⟩, ⟨p5, p6⟩⟩ := hok x (List.mem_of_getElem? hx)
    have hm1 := hms i x hx
    obtain ⟨k9, hk9⟩ : ∃ k9 : Nat, x.pr % 5 = k9 := ⟨(x.pr % 5).toNat, by omega⟩
    have hlen : (madeN l i ++ [mk1 i x]).flatMap snC = (madeN l i).flatMap snC ++ snC (mk1 i x) := by simp
    by_cases hk4 : k9 < 4
    · obtain ⟨s, hs⟩ : ∃ s, std4[k9]? = some s := ⟨_, List.getElem?_eq_getElem (by unfold std4; simpa using hk4)⟩
      have hmk : mk1 i x = ⟨1 + i, s.cl, s.fr, s.to, x.ac % 20000, if x.dl = true then x.ac % 20000 + x.tk % 8000 else -1⟩ := by
        unfold mk1
        rw [hk9, Int.toNat_natCast, hs]
      have hmkT : x.dl = true → mk1 i x = _ := fun h9 => by rw [hmk, if_pos h9]
      have hmkF : x.dl = false → mk1 i x = _ := fun h9 => by rw [hmk, if_neg (by rw [h9]; decide)]
      repeat' (first | (refine gJ ?_; first | refine js rfl rfl rfl rfl ?_ | (refine gload rfl rfl ?_; refine j_qe rfl rfl rfl ?_; first | refine ⟨_, q_load_own rfl rfl rfl rfl (by (repeat constructor)) (by first | rfl | assumption), ?_⟩ | refine ⟨_, q_loadA_own rfl rfl rfl rfl (by (repeat constructor)) (by rfl), ?_⟩ | refine ⟨_, q_load_ext rfl rfl rfl rfl ⟨by assumption, (by first | exact id | assumption)⟩ (by first | rfl | assumption), ?_⟩) | refine jfield rfl rfl rfl rfl rfl rfl rfl rfl ?_ | refine jar rfl rfl rfl rfl rfl rfl rfl (by omega) ?_ | (refine gF ?_; refine j_alloc rfl rfl rfl rfl rfl ?_; intro b5) | (refine j_qe rfl rfl rfl ?_; refine ⟨_, q_index_at k9 rfl rfl rfl rfl rfl (by omega), ?_⟩) | (refine j_qe rfl rfl rfl ?_; refine ⟨_, q_rowF (f := sdC) (l := std4) (i := k9) (off := 0) rfl rfl rfl rfl (by (repeat constructor)) (fun _ => rfl) hs rfl, ?_⟩) | (refine j_qe rfl rfl rfl ?_; refine ⟨_, q_rowF (f := sdC) (l := std4) (i := k9) (off := 1) rfl rfl rfl rfl (by (repeat constructor)) (fun _ => rfl) hs rfl, ?_⟩) | (refine j_qe rfl rfl rfl ?_; refine ⟨_, q_rowF (f := sdC) (l := std4) (i := k9) (off := 2) rfl rfl rfl rfl (by (repeat constructor)) (fun _ => rfl) hs rfl, ?_⟩) | (refine gF ?_; first | refine j_store rfl rfl rfl rfl rfl rfl rfl rfl (by (repeat constructor)) (by rfl) ?_ | (refine j_buildSlice rfl rfl rfl rfl rfl rfl rfl rfl rfl rfl rfl rfl ?_; intro b) | (refine j_append rfl rfl rfl rfl rfl rfl rfl rfl rfl rfl rfl (by (repeat constructor)) (by (repeat constructor)) (by rfl) (by rfl) (by omega) (fun _ => by (repeat constructor)) ?_; intro v)) | (refine j_qe rfl rfl rfl ?_; first | refine ⟨_, q_index_nat rfl rfl rfl rfl rfl (by omega), ?_⟩ | refine ⟨_, q_len_slice rfl rfl rfl rfl, ?_⟩ | refine ⟨_, q_build_struct rfl rfl rfl rfl rfl, ?_⟩ | refine ⟨_, q_field_ext rfl rfl rfl rfl rfl, ?_⟩ | refine ⟨_, q_rem rfl rfl rfl (by omega), ?_⟩ | refine ⟨_, q_conv rfl rfl rfl rfl rfl rfl (by first | rfl | (exact i64_wrap (by omega) (by omega)) | (exact u8_wrap (by omega) (by omega)) | (exact u64_wrap (by omega) (by omega)) | (exact u16_wrap (by omega) (by omega))), ?_⟩)) | (refine gSC ?_; first | refine sc_mv rfl ?_ | refine sc_q rfl ?_ | refine sc_region ?_ | refine sc_autoR 9 (.cells b5 45 _) (.q 0 (.q 1 (.q 2 (.q 3 (.q 4 (.q 5 (.q 6 (.q 7 (.q 8 (.q 9 (.q 10 (.q 11 (.q 12 (.q 13 (.q 14 (.q 15 (.e 16 (.q 17 (.e 18 (.q 19 (.e 20 (.z)))))))))))))))))))))) (by repeat (first | exact Rem.here | apply Rem.there)) mixed ?_ | refine sc_auto0 11 (.q 0 (.q 2 (.q 3 (.q 4 (.q 5 (.b 1 6 (.e 6 (.q 7 (.q 8 (.q 9 (.q 10 (.e 11 (.z))))))) (.q 7 (.q 8 (.e 1 (.q 9 (.q 10 (.e 11 (.z))))))))))))) mixed ?_) | (refine gJG ?_; first | refine jg_q rfl (by kernel_rfl) ?_ | refine jg_e (by kernel_rfl) rfl ?_ | refine jg_b (by kernel_rfl) rfl rfl ?_ ?_ | refine jg_done (by kernel_rfl) ?_) | (refine gSQ ?_; first | refine jg_next ?_ | (refine gFE ?_; first | refine jg_next0 ?_ | refine jg_nextE (by first | exact LSub.refl | (repeat (first | exact LSub.refl | refine LSub.cons (by repeat (first | exact Rem.here | apply Rem.there)) ?_ | apply LSub.skip))) ?_) | refine sq_go rfl ?_ | refine sq_mv rfl ?_) | refine j_nil ?_ | ((first | refine j_guard rfl rfl rfl rfl rfl ?_ ?_ | refine sc_cond rfl ?_ ?_) <;> intro hc <;> (first | exact absurd hc (by decide) | ((try simp only [engHC] at hc) <;> first | (exfalso; omega) | skip))))
      all_goals
        refine sq_loop (i + 1, v) ⟨by show i + 1 ≤ n; omega, by show i + 1 ≤ 2000; omega⟩ (by show n - (i + 1) < n - i; omega) (by (try dsimp only); exact (by repeat (first | exact FSub.nil | refine FSub.cons rfl ?_ | refine FSub.conse rfl (by congr 1; omega) ?_))) ?_
        dsimp only
        rw [hm1, hlen]
        first | rw [hmkT (by assumption)] | rw [hmkF (by assumption)] | rw [hmkF (by simpa using (by assumption : ¬ x.dl = true))]
        exact (by repeat (first | exact LSub.refl | refine LSub.cons (by repeat (first | exact Rem.here | apply Rem.there)) ?_ | apply LSub.skip))
    · have hmk : mk1 i x = ⟨1 + i, 2, 3, 1, x.ac % 20000, if x.dl = true then x.ac % 20000 + x.tk % 8000 else -1⟩ := by
        unfold mk1
        rw [hk9, Int.toNat_natCast, List.getElem?_eq_none (by unfold std4; simpa using Nat.le_of_not_lt hk4)]
      have hmkT : x.dl = true → mk1 i x = _ := fun h9 => by rw [hmk, if_pos h9]
      have hmkF : x.dl = false → mk1 i x = _ := fun h9 => by rw [hmk, if_neg (by rw [h9]; decide)]
      repeat' (first | (refine gJ ?_; first | refine js rfl rfl rfl rfl ?_ | (refine gload rfl rfl ?_; refine j_qe rfl rfl rfl ?_; first | refine ⟨_, q_load_own rfl rfl rfl rfl (by (repeat constructor)) (by first | rfl | assumption), ?_⟩ | refine ⟨_, q_loadA_own rfl rfl rfl rfl (by (repeat constructor)) (by rfl), ?_⟩ | refine ⟨_, q_load_ext rfl rfl rfl rfl ⟨by assumption, (by first | exact id | assumption)⟩ (by first | rfl | assumption), ?_⟩) | refine jfield rfl rfl rfl rfl rfl rfl rfl rfl ?_ | refine jar rfl rfl rfl rfl rfl rfl rfl (by omega) ?_ | (refine gF ?_; refine j_alloc rfl rfl rfl rfl rfl ?_; intro b5) | (refine gF ?_; first | refine j_store rfl rfl rfl rfl rfl rfl rfl rfl (by (repeat constructor)) (by rfl) ?_ | (refine j_buildSlice rfl rfl rfl rfl rfl rfl rfl rfl rfl rfl rfl rfl ?_; intro b) | (refine j_append rfl rfl rfl rfl rfl rfl rfl rfl rfl rfl rfl (by (repeat constructor)) (by (repeat constructor)) (by rfl) (by rfl) (by omega) (fun _ => by (repeat constructor)) ?_; intro v)) | (refine j_qe rfl rfl rfl ?_; first | refine ⟨_, q_index_nat rfl rfl rfl rfl rfl (by omega), ?_⟩ | refine ⟨_, q_len_slice rfl rfl rfl rfl, ?_⟩ | refine ⟨_, q_build_struct rfl rfl rfl rfl rfl, ?_⟩ | refine ⟨_, q_field_ext rfl rfl rfl rfl rfl, ?_⟩ | refine ⟨_, q_rem rfl rfl rfl (by omega), ?_⟩ | refine ⟨_, q_conv rfl rfl rfl rfl rfl rfl (by first | rfl | (exact i64_wrap (by omega) (by omega)) | (exact u8_wrap (by omega) (by omega)) | (exact u64_wrap (by omega) (by omega)) | (exact u16_wrap (by omega) (by omega))), ?_⟩)) | (refine gSC ?_; first | refine sc_mv rfl ?_ | refine sc_q rfl ?_ | refine sc_region ?_ | refine sc_auto0 11 (.q 0 (.q 2 (.q 3 (.q 4 (.q 5 (.b 1 6 (.e 6 (.q 7 (.q 8 (.q 9 (.q 10 (.e 11 (.z))))))) (.q 7 (.q 8 (.e 1 (.q 9 (.q 10 (.e 11 (.z))))))))))))) mixed ?_) | (refine gJG ?_; first | refine jg_q rfl (by kernel_rfl) ?_ | refine jg_e (by kernel_rfl) rfl ?_ | refine jg_b (by kernel_rfl) rfl rfl ?_ ?_ | refine jg_done (by kernel_rfl) ?_) | (refine gSQ ?_; first | refine jg_next ?_ | (refine gFE ?_; first | refine jg_next0 ?_ | refine jg_nextE (by first | exact LSub.refl | (repeat (first | exact LSub.refl | refine LSub.cons (by repeat (first | exact Rem.here | apply Rem.there)) ?_ | apply LSub.skip))) ?_) | refine sq_go rfl ?_ | refine sq_mv rfl ?_) | refine j_nil ?_ | ((first | refine j_guard rfl rfl rfl rfl rfl ?_ ?_ | refine sc_cond rfl ?_ ?_) <;> intro hc <;> (first | exact absurd hc (by decide) | ((try simp only [engHC] at hc) <;> first | (exfalso; omega) | skip))))
      all_goals
        refine sq_loop (i + 1, v) ⟨by show i + 1 ≤ n; omega, by show i + 1 ≤ 2000; omega⟩ (by show n - (i + 1) < n - i; omega) (by (try dsimp only); exact (by repeat (first | exact FSub.nil | refine FSub.cons rfl ?_ | refine FSub.conse rfl (by congr 1; omega) ?_))) ?_
        dsimp only
        rw [hm1, hlen]
        first | rw [hmkT (by assumption)] | rw [hmkF (by assumption)] | rw [hmkF (by simpa using (by assumption : ¬ x.dl = true))]
        exact (by repeat (first | exact LSub.refl | refine LSub.cons (by repeat (first | exact Rem.here | apply Rem.there)) ?_ | apply LSub.skip))
  · have hf := hfin i (by omega)
    have hfl := hml i
    rw [hf] at hfl ⊢
    repeat' (first | (refine gJ ?_; first | refine js rfl rfl rfl rfl ?_ | (refine j_qe rfl rfl rfl ?_; refine ⟨_, q_len_slice rfl rfl rfl rfl, ?_⟩)) | (refine gSC ?_; first | refine sc_mv rfl ?_ | refine sc_q rfl ?_ | refine sc_region ?_) | (refine gSQ ?_; first | refine sq_go rfl ?_ | refine sq_mv rfl ?_ | refine sq_ende (by first | exact .inl rfl | exact .inr rfl) rfl rfl ⟨_, (RVs.cons (RV.tmp rfl) (RVs.cons (RV.tmp rfl) (RVs.nil))), ?_⟩) | refine j_nil ?_ | ((first | refine j_guard rfl rfl rfl rfl rfl ?_ ?_ | refine sc_cond rfl ?_ ?_) <;> intro hc <;> (first | exact absurd hc (by decide) | ((try simp only [engHC] at hc) <;> first | (exfalso; omega) | skip))))
    all_goals
      intro w' hS
      refine ⟨(_, _), trivial, rfl, ?_⟩
      rw [hfl]
      exact hS.sub (by repeat (first | exact LSub.refl | refine LSub.cons (by repeat (first | exact Rem.here | apply Rem.there)) ?_ | apply LSub.skip))
end Go.Proofs.YtmakokbpadmfbaaGreat

/-
  service: Transit.
-/
namespace Go.Proofs.YtmakokbpadmfbaaGreat
open Go.RowKit Eng
set_option linter.unusedVariables false
set_option linter.unusedSimpArgs false
set_option maxHeartbeats 8000000
attribute [local irreducible] SC SQ J Qt Calls Iterates LSub FSub
def trSel (cl fr to now : Int) (x : Sn) : Bool := decide (x.cl = cl ∧ x.fr = fr ∧ x.to = to) && delB x now
def trL (s : List Sn) (cl fr to now : Int) : List Int := (s.filter (trSel cl fr to now)).map fun x => x.de - x.ac
def trOk (s : List Sn) (now q : Int) : Prop := sentB s = true ∧ timeI now ∧ 0 ≤ q ∧ q ≤ 10000
instance (s : List Sn) (now q : Int) : Decidable (trOk s now q) := by unfold trOk; exact inferInstance
def trF (s : List Sn) (cl fr to now q : Int) : Int × Int :=
  if trOk s now q then (if (trL s cl fr to now).length = 0 then (0, 6) else (((sortI (trL s cl fr to now))[rank (trL s cl fr to now).length q.toNat]?).getD 0, 0)) else (0, 2)
theorem trL_snoc {s : List Sn} {i : Nat} {x : Sn} (cl fr to now : Int) (h : s[i]? = some x) : trL (s.take (i + 1)) cl fr to now = trL (s.take i) cl fr to now ++ (if trSel cl fr to now x = true then [x.de - x.ac] else []) := by
  unfold trL
  rw [take_snocS h, List.filter_append, List.map_append]
  congr 1
  simp only [List.filter_cons, List.filter_nil]
  split <;> rfl
theorem trL_len (s : List Sn) (cl fr to now : Int) : (trL s cl fr to now).length ≤ s.length := by unfold trL; rw [List.length_map]; exact List.length_filter_le _ _
set_option maxHeartbeats 8000000 in
theorem Transit_bad (B : Option Addr) (bc : Nat) (s : List Sn) (cl fr to now q : Int) (w : World) (hsl : s.length ≤ 9223372036854775807) (h2 : RS w 6 snC B s) (hbad : ¬ trOk s now q) :
    Calls Tryz.prog 22 #[.slice B s.length bc, .int .u8 cl, .int .i64 fr, .int .i64 to, .int .i64 now, .int .i64 q] w fun e w' => e = .returned (.tuple #[.int .i64 (trF s cl fr to now q).1, .int .i64 (trF s cl fr to now q).2]) ∧ Below w.heap.size w w' := by
  have hS := fun w' h' => RightSent_c B bc s w' hsl h'
  have hT := fun w' => isTime_c now w'
  have e : trF s cl fr to now q = (0, 2) := if_neg hbad
  rw [e]
  unfold trOk at hbad
  generalize sentB s = S at *
  generalize hm : s.length = m at *
  refine eng_start (n := 77) (args := [.slice B m bc, .int .u8 cl, .int .i64 fr, .int .i64 to, .int .i64 now, .int .i64 q]) tab tab_ok fns fns_ok [.tmp 12, .tmp 13] Tryz.func22 rfl rfl rfl rfl ?_
  cases S <;> by_cases ht : timeI now
  all_goals
    first | rw [decide_eq_true ht] at hT | rw [decide_eq_false ht] at hT
    simp only [ht, true_and, false_and, and_true, and_false, not_true_eq_false, not_false_eq_true, Bool.false_eq_true] at hbad
    repeat' (first | (refine gJ ?_; first | refine js rfl rfl rfl rfl ?_ | (refine gcall rfl rfl ?_; first | (refine j_qc (f := 45) rfl rfl rfl rfl rfl rfl rfl ?_; refine ⟨_, (fun w' hs => hS w' (h2.st hs)), ?_⟩) | (refine j_qc (f := 46) rfl rfl rfl rfl rfl rfl rfl ?_; refine ⟨_, (fun w' _ => hT w'), ?_⟩))) | (refine gSC ?_; first | refine sc_mv rfl ?_ | refine sc_q rfl ?_ | refine sc_region ?_) | (refine gSQ ?_; first | refine sq_go rfl ?_ | refine sq_mv rfl ?_ | refine sq_ende (by first | exact .inl rfl | exact .inr rfl) rfl rfl ⟨_, (RVs.cons (RV.tmp rfl) (RVs.cons (RV.tmp rfl) (RVs.nil))), ?_⟩) | refine j_nil ?_ | ((first | refine j_guard rfl rfl rfl rfl rfl ?_ ?_ | refine sc_cond rfl ?_ ?_) <;> intro hc <;> (first | exact absurd hc (by decide) | ((try simp only [engHC] at hc) <;> first | (exfalso; omega) | skip))))
    all_goals (intro w' hS; refine ⟨?_, hS.below⟩; simp only [pack])
set_option maxHeartbeats 8000000 in
theorem Transit_ok (B : Option Addr) (bc : Nat) (s : List Sn) (cl fr to now q : Int) (w : World) (h2 : RS w 6 snC B s) (hok : trOk s now q) :
    Calls Tryz.prog 22 #[.slice B s.length bc, .int .u8 cl, .int .i64 fr, .int .i64 to, .int .i64 now, .int .i64 q] w fun e w' => e = .returned (.tuple #[.int .i64 (trF s cl fr to now q).1, .int .i64 (trF s cl fr to now q).2]) ∧ Below w.heap.size w w' := by
  have hm9 := (sentB_ok hok.1).1
  have hsok := (sentB_ok hok.1).2
  have hS := fun w' h' => RightSent_c B bc s w' (by omega) h'
  have hT := fun w' => isTime_c now w'
  rw [hok.1] at hS
  rw [decide_eq_true hok.2.1] at hT
  have hres : trF s cl fr to now q = if (trL s cl fr to now).length = 0 then (0, 6) else (((sortI (trL s cl fr to now))[rank (trL s cl fr to now).length q.toNat]?).getD 0, 0) := if_pos hok
  obtain ⟨hq1, hq2⟩ := hok.2.2
  clear hok
  have hsn := fun i x (hx : s[i]? = some x) => trL_snoc cl fr to now hx
  have hln := fun i => trL_len (s.take i) cl fr to now
  have hall : s.take s.length = s := List.take_length
  have htl : ∀ i, (s.take i).length ≤ i := fun i => by rw [List.length_take]; omega
  obtain ⟨q9, rfl⟩ : ∃ q9 : Nat, q = q9 := ⟨q.toNat, by omega⟩
  rw [Int.toNat_natCast] at hres
  generalize hm : s.length = m at *
  refine eng_start (n := 77) (args := [.slice B m bc, .int .u8 cl, .int .i64 fr, .int .i64 to, .int .i64 now, .int .i64 q9]) tab tab_ok fns fns_ok [.tmp 12, .tmp 13] Tryz.func22 rfl rfl rfl rfl ?_
  repeat' (first | (refine gJ ?_; first | refine js rfl rfl rfl rfl ?_ | (refine gcall rfl rfl ?_; first | (refine j_qc (f := 45) rfl rfl rfl rfl rfl rfl rfl ?_; refine ⟨_, (fun w' hs => hS w' (h2.st hs)), ?_⟩) | (refine j_qc (f := 46) rfl rfl rfl rfl rfl rfl rfl ?_; refine ⟨_, (fun w' _ => hT w'), ?_⟩)) | (refine j_qe rfl rfl rfl ?_; refine ⟨_, q_len_slice rfl rfl rfl rfl, ?_⟩)) | (refine gSC ?_; first | refine sc_mv rfl ?_ | refine sc_q rfl ?_ | refine sc_region ?_) | (refine gSQ ?_; refine sq_go rfl ?_) | refine j_nil ?_ | ((first | refine j_guard rfl rfl rfl rfl rfl ?_ ?_ | refine sc_cond rfl ?_ ?_) <;> intro hc <;> (first | exact absurd hc (by decide) | ((try simp only [engHC] at hc) <;> first | (exfalso; omega) | skip))))
  refine sc_own_nil_at 3 1 ?_
  refine sc_loop (ι := Nat × Value) (fun i => i.1 ≤ m) (fun i => m - i.1) (fun i => [(1, .int .u8 cl), (2, .int .i64 fr), (3, .int .i64 to), (4, .int .i64 now), (5, .int .i64 q9), (14, i.2), (33, .slice B m bc), (34, .int .i64 m), (35, .int .i64 i.1)]) (fun i => [.own i.2 3 1 (trL (s.take i.1) cl fr to now).length ((trL (s.take i.1) cl fr to now).flatMap intC)]) (0, .slice none 0 0) (Nat.zero_le _) (by (try dsimp only); exact (by repeat (first | exact FSub.nil | refine FSub.cons rfl ?_ | refine FSub.conse rfl (by congr 1; omega) ?_))) (by repeat (first | exact LSub.refl | refine LSub.cons (by repeat (first | exact Rem.here | apply Rem.there)) ?_ | apply LSub.skip)) ?_
  rintro ⟨i, v0⟩ hi
  dsimp only at hi ⊢
  by_cases hlt : i < m
  · obtain ⟨x, hx⟩ : ∃ x, s[i]? = some x := ⟨_, List.getElem?_eq_getElem (by omega)⟩
    obtain ⟨ad, rfl, hX⟩ := h2 i x hx
    have hxok := hsok x (List.mem_of_getElem? hx)
    unfold okSn at hxok
    have e1 := hsn i x hx
    have hl1 : (trL (s.take i) cl fr to now).length ≤ 2000 := by have := hln i; have := htl i; omega
    have hD := fun w' => del_c x now w'
    have hdd : delB x now = true → x.de ≠ -1 := fun h9 => by unfold delB at h9; exact (of_decide_eq_true h9).1
    unfold trSel at e1
    clear hsn hln hall htl hS hT hsok
    by_cases hq3 : x.cl = cl ∧ x.fr = fr ∧ x.to = to
    · rw [decide_eq_true hq3, Bool.true_and] at e1
      cases hdb : delB x now
      · rw [hdb] at e1 hD
        rw [if_neg (by decide), List.append_nil] at e1
        repeat' (first | (refine gJ ?_; first | refine js rfl rfl rfl rfl ?_ | (refine gload rfl rfl ?_; refine j_qe rfl rfl rfl ?_; first | refine ⟨_, q_load_own rfl rfl rfl rfl (by (repeat constructor)) (by first | rfl | assumption), ?_⟩ | refine ⟨_, q_loadA_own rfl rfl rfl rfl (by (repeat constructor)) (by rfl), ?_⟩ | refine ⟨_, q_loadA_ext rfl rfl rfl rfl ⟨by assumption, (by first | exact id | assumption)⟩ (by rfl), ?_⟩) | refine jfield rfl rfl rfl rfl rfl rfl rfl rfl ?_ | refine jar rfl rfl rfl rfl rfl rfl rfl (by omega) ?_ | (refine gcall rfl rfl ?_; (refine j_qc (f := 48) rfl rfl rfl rfl rfl rfl rfl ?_; refine ⟨_, (fun w' _ => hD w'), ?_⟩)) | (refine gF ?_; first | refine j_store rfl rfl rfl rfl rfl rfl rfl rfl (by (repeat constructor)) (by rfl) ?_ | (refine j_alloc rfl rfl rfl rfl rfl ?_; intro b)) | (refine j_qe rfl rfl rfl ?_; refine ⟨_, q_index_nat rfl rfl rfl rfl rfl (by omega), ?_⟩)) | (refine gSC ?_; first | refine sc_mv rfl ?_ | refine sc_q rfl ?_ | refine sc_region ?_) | (refine gSQ ?_; first | refine sq_go rfl ?_ | refine sq_mv rfl ?_) | refine j_nil ?_ | ((first | refine j_guard rfl rfl rfl rfl rfl ?_ ?_ | refine sc_cond rfl ?_ ?_) <;> intro hc <;> (first | exact absurd hc (by decide) | ((try simp only [engHC] at hc) <;> first | (exfalso; omega) | skip))))
        exact sq_loop (i + 1, v0) (by show i + 1 ≤ m; omega) (by show m - (i + 1) < m - i; omega) (by (try dsimp only); exact (by repeat (first | exact FSub.nil | refine FSub.cons rfl ?_ | refine FSub.conse rfl (by congr 1; omega) ?_))) (by dsimp only; rw [e1]; exact (by repeat (first | exact LSub.refl | refine LSub.cons (by repeat (first | exact Rem.here | apply Rem.there)) ?_ | apply LSub.skip)))
      · have hde := hdd hdb
        rw [hdb] at e1 hD
        rw [if_pos rfl] at e1
        repeat' (first | (refine gJ ?_; first | refine js rfl rfl rfl rfl ?_ | (refine gload rfl rfl ?_; refine j_qe rfl rfl rfl ?_; first | refine ⟨_, q_load_own rfl rfl rfl rfl (by (repeat constructor)) (by first | rfl | assumption), ?_⟩ | refine ⟨_, q_loadA_own rfl rfl rfl rfl (by (repeat constructor)) (by rfl), ?_⟩ | refine ⟨_, q_loadA_ext rfl rfl rfl rfl ⟨by assumption, (by first | exact id | assumption)⟩ (by rfl), ?_⟩) | refine jfield rfl rfl rfl rfl rfl rfl rfl rfl ?_ | refine jar rfl rfl rfl rfl rfl rfl rfl (by omega) ?_ | (refine gcall rfl rfl ?_; (refine j_qc (f := 48) rfl rfl rfl rfl rfl rfl rfl ?_; refine ⟨_, (fun w' _ => hD w'), ?_⟩)) | (refine gF ?_; first | refine j_store rfl rfl rfl rfl rfl rfl rfl rfl (by (repeat constructor)) (by rfl) ?_ | (refine j_alloc rfl rfl rfl rfl rfl ?_; intro b) | (refine j_buildSlice rfl rfl rfl rfl rfl rfl rfl rfl rfl rfl rfl rfl ?_; intro b) | (refine j_append rfl rfl rfl rfl rfl rfl rfl rfl rfl rfl rfl (by (repeat constructor)) (by (repeat constructor)) (by rfl) (by rfl) (by omega) (fun _ => by (repeat constructor)) ?_; intro v)) | (refine j_qe rfl rfl rfl ?_; refine ⟨_, q_index_nat rfl rfl rfl rfl rfl (by omega), ?_⟩)) | (refine gSC ?_; first | refine sc_mv rfl ?_ | refine sc_q rfl ?_ | refine sc_region ?_) | (refine gSQ ?_; first | refine sq_go rfl ?_ | refine sq_mv rfl ?_) | refine j_nil ?_ | ((first | refine j_guard rfl rfl rfl rfl rfl ?_ ?_ | refine sc_cond rfl ?_ ?_) <;> intro hc <;> (first | exact absurd hc (by decide) | ((try simp only [engHC] at hc) <;> first | (exfalso; omega) | skip))))
        refine sq_loop (i + 1, v) (by show i + 1 ≤ m; omega) (by show m - (i + 1) < m - i; omega) (by (try dsimp only); exact (by repeat (first | exact FSub.nil | refine FSub.cons rfl ?_ | refine FSub.conse rfl (by congr 1; omega) ?_))) ?_
        dsimp only
        rw [e1, List.length_append, List.flatMap_append]
        exact (by repeat (first | exact LSub.refl | refine LSub.cons (by repeat (first | exact Rem.here | apply Rem.there)) ?_ | apply LSub.skip))
    · rw [decide_eq_false hq3, Bool.false_and, if_neg (by decide), List.append_nil] at e1
      repeat' (first | (refine gJ ?_; first | refine js rfl rfl rfl rfl ?_ | (refine gload rfl rfl ?_; refine j_qe rfl rfl rfl ?_; first | refine ⟨_, q_load_own rfl rfl rfl rfl (by (repeat constructor)) (by first | rfl | assumption), ?_⟩ | refine ⟨_, q_loadA_ext rfl rfl rfl rfl ⟨by assumption, (by first | exact id | assumption)⟩ (by rfl), ?_⟩) | refine jfield rfl rfl rfl rfl rfl rfl rfl rfl ?_ | refine jar rfl rfl rfl rfl rfl rfl rfl (by omega) ?_ | (refine gF ?_; first | refine j_store rfl rfl rfl rfl rfl rfl rfl rfl (by (repeat constructor)) (by rfl) ?_ | (refine j_alloc rfl rfl rfl rfl rfl ?_; intro b)) | (refine j_qe rfl rfl rfl ?_; refine ⟨_, q_index_nat rfl rfl rfl rfl rfl (by omega), ?_⟩)) | (refine gSC ?_; first | refine sc_mv rfl ?_ | refine sc_q rfl ?_ | refine sc_region ?_) | (refine gSQ ?_; first | refine sq_go rfl ?_ | refine sq_mv rfl ?_) | refine j_nil ?_ | ((first | refine j_guard rfl rfl rfl rfl rfl ?_ ?_ | refine sc_cond rfl ?_ ?_) <;> intro hc <;> (first | exact absurd hc (by decide) | ((try simp only [engHC] at hc) <;> first | (exfalso; omega) | skip))))
      all_goals exact sq_loop (i + 1, v0) (by show i + 1 ≤ m; omega) (by show m - (i + 1) < m - i; omega) (by (try dsimp only); exact (by repeat (first | exact FSub.nil | refine FSub.cons rfl ?_ | refine FSub.conse rfl (by congr 1; omega) ?_))) (by dsimp only; rw [e1]; exact (by repeat (first | exact LSub.refl | refine LSub.cons (by repeat (first | exact Rem.here | apply Rem.there)) ?_ | apply LSub.skip)))
  · have him : i = m := by omega
    subst him
    have hl1 : (trL s cl fr to now).length ≤ 2000 := by have := hln i; rw [hall] at this; omega
    rw [hall]
    generalize trL s cl fr to now = T at *
    refine sc_owns (v := v0) (by (repeat constructor)) ?_
    rintro A0 c0 rfl hs0
    by_cases hT0 : T.length = 0
    · rw [if_pos hT0] at hres
      rw [hres]
      repeat' (first | (refine gJ ?_; first | refine js rfl rfl rfl rfl ?_ | (refine j_qe rfl rfl rfl ?_; refine ⟨_, q_len_slice rfl rfl rfl rfl, ?_⟩)) | (refine gSC ?_; first | refine sc_mv rfl ?_ | refine sc_q rfl ?_ | refine sc_region ?_) | (refine gSQ ?_; first | refine sq_go rfl ?_ | refine sq_mv rfl ?_ | refine sq_ende (by first | exact .inl rfl | exact .inr rfl) rfl rfl ⟨_, (RVs.cons (RV.tmp rfl) (RVs.cons (RV.tmp rfl) (RVs.nil))), ?_⟩) | refine j_nil ?_ | ((refine sc_cond rfl ?_ ?_) <;> intro hc <;> (((try simp only [engHC] at hc) <;> first | (exfalso; omega) | skip))))
      (intro w' hS; refine ⟨?_, hS.below⟩; simp only [pack])
    · rw [if_neg hT0] at hres
      rw [hres]
      have hqc := fun w' h => quant_c A0 c0 T q9 w' (by omega) (by omega) (by omega) h
      repeat' (first | (refine gJ ?_; first | refine js rfl rfl rfl rfl ?_ | (refine gcall rfl rfl ?_; (refine j_qc (f := 49) rfl rfl rfl rfl rfl rfl rfl ?_; refine ⟨_, (fun w' hs => hqc w' ⟨rs_own (f := intC) (fun _ => rfl) hs (by (repeat constructor)) rfl rfl, fun h9 => ⟨List.length_eq_zero_iff.1 (hs0.nil h9).1, (hs0.nil h9).2⟩⟩), ?_⟩)) | (refine j_qe rfl rfl rfl ?_; refine ⟨_, q_len_slice rfl rfl rfl rfl, ?_⟩)) | (refine gSC ?_; first | refine sc_mv rfl ?_ | refine sc_q rfl ?_ | refine sc_region ?_) | (refine gSQ ?_; first | refine sq_go rfl ?_ | refine sq_mv rfl ?_ | refine sq_ende (by first | exact .inl rfl | exact .inr rfl) rfl rfl ⟨_, (RVs.cons (RV.tmp rfl) (RVs.cons (RV.tmp rfl) (RVs.nil))), ?_⟩) | refine j_nil ?_ | ((refine sc_cond rfl ?_ ?_) <;> intro hc <;> (((try simp only [engHC] at hc) <;> first | (exfalso; omega) | skip))))
      (intro w' hS; refine ⟨?_, hS.below⟩; simp only [pack])
theorem Transit_c (B : Option Addr) (bc : Nat) (s : List Sn) (cl fr to now q : Int) (w : World) (hsl : s.length ≤ 9223372036854775807) (h2 : RS w 6 snC B s) :
    Calls Tryz.prog 22 #[.slice B s.length bc, .int .u8 cl, .int .i64 fr, .int .i64 to, .int .i64 now, .int .i64 q] w fun e w' => e = .returned (.tuple #[.int .i64 (trF s cl fr to now q).1, .int .i64 (trF s cl fr to now q).2]) ∧ Below w.heap.size w w' := by
  by_cases hok : trOk s now q
  · exact Transit_ok B bc s cl fr to now q w h2 hok
  · exact Transit_bad B bc s cl fr to now q w hsl h2 hok
end Go.Proofs.YtmakokbpadmfbaaGreat

/-
  The examples of the chapter.
-/
namespace Go.Proofs.YtmakokbpadmfbaaGreat
open Go.RowKit Eng
set_option linter.unusedVariables false
set_option linter.unusedSimpArgs false
set_option maxHeartbeats 8000000
attribute [local irreducible] SC SQ J Qt Calls Iterates LSub FSub
theorem rw_eq (a b : Rw) : a = b ↔ a.cl = b.cl ∧ a.fr = b.fr ∧ a.to = b.to ∧ a.tr = b.tr ∧ a.kp = b.kp ∧ a.op = b.op ∧ a.ot = b.ot ∧ a.le = b.le ∧ a.gr = b.gr := by
  cases a; cases b; simp
theorem eqm35 : Tryz.prog.eqGuardType Tryz.prog.depth 35 = false := by kernel_rfl
theorem eq35 (a b : Rw) (w : World) : (Op.equalIn 10000 35 (rwV a) (rwV b)).run Tryz.prog w = .ok (decide (a = b)) w := by
  have u3 := Tryz.underlying3
  have a3 := Tryz.isAgg3
  have z3 := Tryz.sizeOf3
  have u5 := Tryz.underlying5
  have a5 := Tryz.isAgg5
  have z5 := Tryz.sizeOf5
  rw [run_equalIn_agg w 9999 35 _ _ (by kernel_rfl) (by kernel_rfl)]
  simp only [Program.fieldsOf, Tryz.underlying35]
  go_simp
  have e : decide (a = b) = decide (a.cl = b.cl ∧ a.fr = b.fr ∧ a.to = b.to ∧ a.tr = b.tr ∧ a.kp = b.kp ∧ a.op = b.op ∧ a.ot = b.ot ∧ a.le = b.le ∧ a.gr = b.gr) := decide_eq_decide.2 (rw_eq a b)
  rw [e]
  by_cases h1 : a.cl = b.cl
  · by_cases h2 : a.fr = b.fr
    · by_cases h3 : a.to = b.to
      · by_cases h4 : a.tr = b.tr
        · by_cases h5 : a.kp = b.kp
          · by_cases h6 : a.op = b.op
            · by_cases h7 : a.ot = b.ot
              · by_cases h8 : a.le = b.le <;> by_cases h9 : a.gr = b.gr <;> simp [h1, h2, h3, h4, h5, h6, h7, h8, h9]
              · simp [h1, h2, h3, h4, h5, h6, h7]
            · simp [h1, h2, h3, h4, h5, h6]
          · simp [h1, h2, h3, h4, h5]
        · simp [h1, h2, h3, h4]
      · simp [h1, h2, h3]
    · simp [h1, h2]
  · simp [h1]
theorem low_is {n k r L : Nat} (h1 : L = 0 ∨ posB n k r (L - 1) = false) (h2 : posB n k r L = true) (hL : L ≤ 10000) : lowF n k r = L := by
  refine lowest_eq (fun p hp => ?_) (fun _ => h2) hL
  rcases h1 with h | h
  · omega
  · cases hpp : posB n k r p with
    | false => rfl
    | true =>
      have := posB_mono n k r p (L - 1) (by omega) (by omega) hpp
      rw [h] at this
      cases this
theorem lowA : lowF 10 10 500 = 7412 := low_is (.inr (by decide +kernel)) (by decide +kernel) (by decide)
theorem lowB : lowF 10 0 500 = 0 := low_is (.inl rfl) (by decide +kernel) (by decide)
theorem ms_one {of : Sn → Lane} {l : List Sd} {s : List Sn} {now risk : Int} {k : Lane} {r : Rw} (h1 : msOk l s now risk) (h2 : lanesO of s = [k]) (h3 : rowAt of (fun x => outF l x now) s k = r) (h4 : r.tr ≤ 500) : msF of l s now risk = (0, [bndR r risk]) := by
  have hs : sortL (lanesO of s) = [k] := by rw [h2]; exact List.perm_singleton.1 (sortL_perm [k])
  unfold msF msLong msRows
  rw [if_pos h1, hs]
  simp only [List.any_cons, List.any_nil, Bool.or_false, List.map_cons, List.map_nil, h3]
  rw [if_neg (by simp; omega)]
def sentN (d : Int) (n : Nat) : List Sn := (List.range n).map fun j : Nat => sentF (1 + (j : Int)) d
theorem sentN_succ (d : Int) (n : Nat) : sentN d (n + 1) = sentN d n ++ [sentF (1 + (n : Int)) d] := by
  unfold sentN
  rw [List.range_succ, List.map_append]
  rfl
theorem sentN_len (d : Int) (n : Nat) : (sentN d n).length = n := by simp [sentN]
theorem keptM : msF ofM std1 (sentN 2000 10) 3000 500 = (0, [⟨1, 2, 3, 10, 10, 0, 0, 7412, 10000⟩]) := by
  rw [ms_one (k := ⟨1, 2, 3⟩) (r := ⟨1, 2, 3, 10, 10, 0, 0, 0, 0⟩) (by decide +kernel) (by decide +kernel) (by decide +kernel) (by decide)]
  have h1 : lowF (10 : Int).toNat (10 : Int).toNat (500 : Int).toNat = 7412 := lowA
  have h2 : lowF (10 : Int).toNat ((10 : Int).toNat - (10 : Int).toNat) (500 : Int).toNat = 0 := lowB
  unfold bndR
  simp only [h1, h2]
  rfl
theorem lateM : msF ofM std1 (sentN (-1) 10) 3000 500 = (0, [⟨1, 2, 3, 10, 0, 0, 0, 0, 2588⟩]) := by
  rw [ms_one (k := ⟨1, 2, 3⟩) (r := ⟨1, 2, 3, 10, 0, 0, 0, 0, 0⟩) (by decide +kernel) (by decide +kernel) (by decide +kernel) (by decide)]
  have h1 : lowF (10 : Int).toNat (0 : Int).toNat (500 : Int).toNat = 0 := lowB
  have h2 : lowF (10 : Int).toNat ((10 : Int).toNat - (0 : Int).toNat) (500 : Int).toNat = 7412 := lowA
  unfold bndR
  simp only [h1, h2]
  rfl
theorem trE : trF [sentF 1 600, sentF 2 800, sentF 3 2500] 1 2 3 3000 5000 = (300, 0) := by
  unfold trF
  rw [if_pos (by decide +kernel)]
  have hL : trL [sentF 1 600, sentF 2 800, sentF 3 2500] 1 2 3 3000 = [100, 300, 2000] := by decide +kernel
  rw [hL]
  have hsrt : sortI [100, 300, 2000] = [100, 300, 2000] := by unfold sortI; exact List.mergeSort_of_pairwise (by decide)
  rw [hsrt]
  rfl
structure Cs where
  x : Sn
  now : Int
  want : Int
abbrev csC (c : Cs) : List Value := snC c.x ++ [.int .i64 c.now, .int .u8 c.want]
def cases5 : List Cs := [⟨sentF 1 2879, 2878, 1⟩, ⟨sentF 1 2879, 2879, 2⟩, ⟨sentF 1 (-1), 2879, 1⟩, ⟨sentF 1 (-1), 2880, 3⟩, ⟨⟨1, 1, 3, 2, 500, 2879⟩, 2879, 4⟩]
theorem cases_ok : ∀ (i : Nat) (c : Cs), cases5[i]? = some c → judF std1 c.x c.now = (c.want, 0) := by
  have key : cases5.all (fun c => decide (judF std1 c.x c.now = (c.want, 0))) = true := by decide +kernel
  intro i c hc
  exact of_decide_eq_true (List.all_eq_true.1 key c (List.mem_of_getElem? hc))
theorem eq35r (a : Rw) (w : World) : (Op.equalIn 10000 35 (rwV a) (rwV a)).run Tryz.prog w = .ok true w := by rw [eq35, decide_eq_true rfl]
def rwK : Rw := ⟨1, 2, 3, 10, 10, 0, 0, 7412, 10000⟩
def rwL : Rw := ⟨1, 2, 3, 10, 0, 0, 0, 0, 2588⟩
theorem ver1 : verF rwK 7412 = (1, 0) := by decide
theorem ver2 : verF rwK 7413 = (3, 0) := by decide
theorem ver3 : verF rwL 2589 = (2, 0) := by decide
set_option maxRecDepth 4000 in
set_option maxHeartbeats 8000000 in
theorem awake_c (w : World) : Calls Tryz.prog 13 #[] w fun e w' => e = .returned (.bool true) ∧ Below w.heap.size w w' := by
  have hJ := fun (i : Nat) (x : Cs) (hx : cases5[i]? = some x) A w' h' => cases_ok i x hx ▸ Judge_c A 1 std1 x.x x.now w' (by simp [std1]) (by
    have key : cases5.all (fun c => decide (0 ≤ c.x.ac ∧ c.x.ac ≤ 1000000)) = true := by decide +kernel
    have := of_decide_eq_true (List.all_eq_true.1 key x (List.mem_of_getElem? hx))
    omega) h'
  have hk := fun A B bc w' h h2 => keptM ▸ Measure_c A 1 std1 B bc (sentN 2000 10) 3000 500 w' (by simp [std1]) (by rw [sentN_len]; omega) h h2
  have hl := fun A B bc w' h h2 => lateM ▸ Measure_c A 1 std1 B bc (sentN (-1) 10) 3000 500 w' (by simp [std1]) (by rw [sentN_len]; omega) h h2
  have ht := fun b w' h => trE ▸ Transit_c (some ⟨b, 0, none⟩) 3 [sentF 1 600, sentF 2 800, sentF 3 2500] 1 2 3 3000 5000 w' (by simp) h
  refine eng_start (n := 163) (args := []) tab tab_ok fns fns_ok [.tmp 0] Tryz.func13 rfl rfl rfl rfl ?_
  repeat' (first | (refine gJ ?_; first | refine js rfl rfl rfl rfl ?_ | (refine gload rfl rfl ?_; refine j_qe rfl rfl rfl ?_; refine ⟨_, q_loadA_own rfl rfl rfl rfl (by (repeat constructor)) (by rfl), ?_⟩) | refine jfield rfl rfl rfl rfl rfl rfl rfl rfl ?_ | (refine gcall rfl rfl ?_; (refine j_qc (f := 33) rfl rfl rfl rfl rfl rfl rfl ?_; refine ⟨_, (fun w' _ => sent_c _ _ w'), ?_⟩)) | (refine gF ?_; first | refine j_store rfl rfl rfl rfl rfl rfl rfl rfl (by (repeat constructor)) (by rfl) ?_ | (refine j_alloc rfl rfl rfl rfl rfl ?_; intro b) | (refine j_buildSlice rfl rfl rfl rfl rfl rfl rfl rfl rfl rfl rfl rfl ?_; intro b)) | (refine j_qe rfl rfl rfl ?_; first | refine ⟨_, q_len_slice rfl rfl rfl rfl, ?_⟩ | refine ⟨_, q_build_struct rfl rfl rfl rfl rfl, ?_⟩)) | (refine gSC ?_; first | refine sc_mv rfl ?_ | refine sc_region ?_ | refine sc_auto 3 (.q 0 (.q 1 (.q 2 (.q 3 (.q 4 (.q 5 (.q 6 (.q 7 (.q 8 (.q 9 (.q 12 (.e 10 (.q 11 (.z)))))))))))))) mixed ?_) | (refine gJG ?_; first | refine jg_q rfl (by kernel_rfl) ?_ | refine jg_e (by kernel_rfl) rfl ?_ | refine jg_done (by kernel_rfl) ?_) | (refine gSQ ?_; first | refine jg_next ?_ | (refine gFE ?_; refine jg_next1 ?_) | refine sq_go rfl ?_) | refine j_nil ?_)
  refine sc_lit 8 (n := 5) (by (repeat constructor)) rfl (by omega) ?_
  revert b; intro b5
  refine sc_loop (ι := Nat) (fun i => i ≤ 5) (fun i => 5 - i) (fun i => [(32, .slice (some ⟨b5, 0, none⟩) 5 5), (33, .int .i64 5), (34, .int .i64 i)]) (fun _ => [.own (.slice (some ⟨b5, 0, none⟩) 5 5) 70 8 5 (cases5.flatMap csC)]) 0 (Nat.zero_le _) (by (try dsimp only); exact (by repeat (first | exact FSub.nil | refine FSub.cons rfl ?_ | refine FSub.conse rfl (by congr 1; omega) ?_))) (by repeat (first | exact LSub.refl | refine LSub.cons (by repeat (first | exact Rem.here | apply Rem.there)) ?_ | apply LSub.skip)) ?_
  rintro i hi
  dsimp only at hi ⊢
  by_cases hlt : i < 5
  · obtain ⟨x, hx⟩ : ∃ x, cases5[i]? = some x := ⟨_, List.getElem?_eq_getElem (by simpa [cases5] using hlt)⟩
    have hJx := fun A w' h' => hJ i x hx A w' h'
    repeat' (first | (refine gJ ?_; first | refine js rfl rfl rfl rfl ?_ | (refine gload rfl rfl ?_; refine j_qe rfl rfl rfl ?_; first | refine ⟨_, q_load_own rfl rfl rfl rfl (by (repeat constructor)) (by first | rfl | assumption), ?_⟩ | refine ⟨_, q_loadA_own rfl rfl rfl rfl (by (repeat constructor)) (by rfl), ?_⟩) | refine jfield rfl rfl rfl rfl rfl rfl rfl rfl ?_ | refine jar rfl rfl rfl rfl rfl rfl rfl (by omega) ?_ | (refine gcall rfl rfl ?_; (refine j_qc (f := 21) rfl rfl rfl rfl rfl rfl rfl ?_; refine ⟨_, (fun w' hs => hJx (some ⟨bs, 0, none⟩) w' (rs_own (f := sdC) (fun _ => rfl) hs (by (repeat constructor)) rfl rfl)), ?_⟩)) | (refine gcall rfl rfl ?_; refine gF ?_; refine j_callN (f := 34) rfl rfl rfl rfl rfl rfl rfl (fun b : Nat => .slice (some ⟨b, 0, none⟩) 1 1) (fun _ => True) (fun b => [.own (.slice (some ⟨b, 0, none⟩) 1 1) 43 4 1 (std1.flatMap sdC)]) (fun w' _ => standard_c w') (fun _ => trivial) ?_; rintro bs _) | (refine j_qe rfl rfl rfl ?_; refine ⟨_, q_index_at i rfl rfl rfl rfl rfl (by omega), ?_⟩) | (refine j_qe rfl rfl rfl ?_; refine ⟨_, q_rowA (f := csC) (i := i) rfl rfl rfl rfl (by (repeat constructor)) (fun _ => rfl) hx rfl, ?_⟩) | (refine gF ?_; first | refine j_store rfl rfl rfl rfl rfl rfl rfl rfl (by (repeat constructor)) (by rfl) ?_ | (refine j_alloc rfl rfl rfl rfl rfl ?_; intro b))) | (refine gSC ?_; first | refine sc_mv rfl ?_ | refine sc_q rfl ?_ | refine sc_region ?_ | refine sc_auto 6 (.q 1 (.q 2 (.q 3 (.q 4 (.e 0 (.e 5 (.q 6 (.q 7 (.q 8 (.q 9 (.q 10 (.z)))))))))))) mixed ?_) | (refine gJG ?_; first | refine jg_q rfl (by kernel_rfl) ?_ | refine jg_e (by kernel_rfl) rfl ?_ | refine jg_done (by kernel_rfl) ?_) | (refine gSQ ?_; first | refine jg_next ?_ | (refine gFE ?_; first | refine jg_next0 ?_ | refine jg_next1 ?_) | refine sq_go rfl ?_ | refine sq_mv rfl ?_) | refine j_nil ?_ | ((first | refine j_guard rfl rfl rfl rfl rfl ?_ ?_ | refine sc_cond rfl ?_ ?_) <;> intro hc <;> (first | exact absurd hc (by decide) | ((try simp only [engHC] at hc) <;> first | (exfalso; omega) | exact absurd trivial hc | skip))))
    exact sq_loop (i + 1) (by show i + 1 ≤ 5; omega) (by show 5 - (i + 1) < 5 - i; omega) (by (try dsimp only); exact (by repeat (first | exact FSub.nil | refine FSub.cons rfl ?_ | refine FSub.conse rfl (by congr 1; omega) ?_))) (by repeat (first | exact LSub.refl | refine LSub.cons (by repeat (first | exact Rem.here | apply Rem.there)) ?_ | apply LSub.skip))
  · repeat' (first | (refine gJ ?_; refine js rfl rfl rfl rfl ?_) | (refine gSC ?_; first | refine sc_mv rfl ?_ | refine sc_q rfl ?_ | refine sc_region ?_) | (refine gSQ ?_; first | refine sq_go rfl ?_ | refine sq_mv rfl ?_) | refine j_nil ?_ | ((refine sc_cond rfl ?_ ?_) <;> intro hc <;> (((try simp only [engHC] at hc) <;> first | (exfalso; omega) | skip))))
    refine sc_own_nil_at 45 6 ?_
    refine sc_own_nil_at 45 6 ?_
    refine sc_loop (ι := Nat × Value × Value) (fun i => i.1 ≤ 10) (fun i => 10 - i.1) (fun i => [(6, i.2.1), (7, i.2.2), (8, .int .i64 (1 + (i.1 : Int)))]) (fun i => [.own i.2.1 45 6 i.1 ((sentN 2000 i.1).flatMap snC), .own i.2.2 45 6 i.1 ((sentN (-1) i.1).flatMap snC)]) (0, .slice none 0 0, .slice none 0 0) (Nat.zero_le _) (by (try dsimp only); exact (by repeat (first | exact FSub.nil | refine FSub.cons rfl ?_ | refine FSub.conse rfl (by congr 1; omega) ?_))) (by repeat (first | exact LSub.refl | refine LSub.cons (by repeat (first | exact Rem.here | apply Rem.there)) ?_ | apply LSub.skip)) ?_
    rintro ⟨j, v6, v7⟩ hj
    dsimp only at hj ⊢
    by_cases hlj : j < 10
    · have e1 := sentN_succ 2000 j
      have e2 := sentN_succ (-1) j
      repeat' (first | (refine gJ ?_; first | refine js rfl rfl rfl rfl ?_ | refine jar rfl rfl rfl rfl rfl rfl rfl (by omega) ?_ | (refine gcall rfl rfl ?_; (refine j_qc (f := 33) rfl rfl rfl rfl rfl rfl rfl ?_; refine ⟨_, (fun w' _ => sent_c _ _ w'), ?_⟩)) | (refine gF ?_; first | (refine j_buildSlice rfl rfl rfl rfl rfl rfl rfl rfl rfl rfl rfl rfl ?_; intro b) | (refine j_append rfl rfl rfl rfl rfl rfl rfl rfl rfl rfl rfl (by (repeat constructor)) (by (repeat constructor)) (by rfl) (by rfl) (by omega) (fun _ => by (repeat constructor)) ?_; intro v))) | (refine gSC ?_; first | refine sc_mv rfl ?_ | refine sc_q rfl ?_ | refine sc_region ?_) | (refine gSQ ?_; first | refine sq_go rfl ?_ | refine sq_mv rfl ?_) | refine j_nil ?_ | ((refine sc_cond rfl ?_ ?_) <;> intro hc <;> (((try simp only [engHC] at hc) <;> first | (exfalso; omega) | skip))))
      refine sq_loop (j + 1, _, _) (by show j + 1 ≤ 10; omega) (by show 10 - (j + 1) < 10 - j; omega) (by repeat (first | exact FSub.nil | refine FSub.cons rfl ?_ | refine FSub.conse rfl (by congr 1; push_cast; omega) ?_)) ?_
      dsimp only
      rw [e1, e2, List.flatMap_append, List.flatMap_append]
      exact (by repeat (first | exact LSub.refl | refine LSub.cons (by repeat (first | exact Rem.here | apply Rem.there)) ?_ | apply LSub.skip))
    · have hj10 : j = 10 := by omega
      subst hj10
      refine sc_owns (v := v6) (by (repeat constructor)) ?_
      rintro A6 c6 rfl hs6
      refine sc_owns (v := v7) (by (repeat constructor)) ?_
      rintro A7 c7 rfl hs7
      repeat' (first | (refine gJ ?_; first | refine js rfl rfl rfl rfl ?_ | refine jar rfl rfl rfl rfl rfl rfl rfl (by omega) ?_ | (refine gcall rfl rfl ?_; first | (refine j_qc (f := 33) rfl rfl rfl rfl rfl rfl rfl ?_; refine ⟨_, (fun w' _ => sent_c _ _ w'), ?_⟩) | (refine j_qc (f := 23) rfl rfl rfl rfl rfl rfl rfl ?_; refine ⟨_, (fun w' _ => ver1 ▸ Verdict_c rwK 7412 w'), ?_⟩) | (refine j_qc (f := 23) rfl rfl rfl rfl rfl rfl rfl ?_; refine ⟨_, (fun w' _ => ver2 ▸ Verdict_c rwK 7413 w'), ?_⟩) | (refine j_qc (f := 23) rfl rfl rfl rfl rfl rfl rfl ?_; refine ⟨_, (fun w' _ => ver3 ▸ Verdict_c rwL 2589 w'), ?_⟩) | (refine j_qc (f := 22) rfl rfl rfl rfl rfl rfl rfl ?_; refine ⟨_, (fun w' hs => ht b w' (rs_lit (f := snC) _ (fun _ => rfl) hs (by (repeat constructor)) rfl)), ?_⟩)) | (refine gcall rfl rfl ?_; refine gF ?_; refine j_callN (f := 34) rfl rfl rfl rfl rfl rfl rfl (fun b : Nat => .slice (some ⟨b, 0, none⟩) 1 1) (fun _ => True) (fun b => [.own (.slice (some ⟨b, 0, none⟩) 1 1) 43 4 1 (std1.flatMap sdC)]) (fun w' _ => standard_c w') (fun _ => trivial) ?_; rintro bs _) | (refine gcall rfl rfl ?_; refine gF ?_; refine j_callN (f := 17) rfl rfl rfl rfl rfl rfl rfl (fun v => .tuple #[v, .int .i64 0]) (fun _ => True) (fun v => [.own v 35 9 1 ([rwK].flatMap rwC)]) (fun w' hs => hk (some ⟨bs, 0, none⟩) A6 c6 w' (rs_own (f := sdC) (fun _ => rfl) hs (by (repeat constructor)) rfl rfl) (rs_own (f := snC) (l := sentN 2000 10) (fun _ => rfl) hs (by (repeat constructor)) rfl rfl)) (fun _ => trivial) ?_; rintro v9 _; refine j_ownp (v := v9) (by (repeat constructor)) (by omega) ?_; rintro a9 c9 rfl hs9) | (refine gcall rfl rfl ?_; refine gF ?_; refine j_callN (f := 17) rfl rfl rfl rfl rfl rfl rfl (fun v => .tuple #[v, .int .i64 0]) (fun _ => True) (fun v => [.own v 35 9 1 ([rwL].flatMap rwC)]) (fun w' hs => hl (some ⟨bs, 0, none⟩) A7 c7 w' (rs_own (f := sdC) (fun _ => rfl) hs (by (repeat constructor)) rfl rfl) (rs_own (f := snC) (l := sentN (-1) 10) (fun _ => rfl) hs (by (repeat constructor)) rfl rfl)) (fun _ => trivial) ?_; rintro v8 _; refine j_ownp (v := v8) (by (repeat constructor)) (by omega) ?_; rintro a8 c8 rfl hs8) | (refine j_qe rfl rfl rfl ?_; refine ⟨_, q_index_at 0 rfl rfl rfl rfl rfl (by omega), ?_⟩) | (refine j_qe rfl rfl rfl ?_; refine ⟨_, q_rowA (f := rwC) (l := [rwK]) (i := 0) rfl rfl rfl rfl (by (repeat constructor)) (fun _ => rfl) rfl rfl, ?_⟩) | (refine j_qe rfl rfl rfl ?_; refine ⟨_, q_rowA (f := rwC) (l := [rwL]) (i := 0) rfl rfl rfl rfl (by (repeat constructor)) (fun _ => rfl) rfl rfl, ?_⟩) | (refine j_qe rfl rfl rfl ?_; refine ⟨_, q_rowF (f := rwC) (l := [rwL]) (i := 0) (off := 8) rfl rfl rfl rfl (by (repeat constructor)) (fun _ => rfl) rfl rfl, ?_⟩) | (refine j_qe rfl rfl rfl ?_; refine ⟨_, q_neS rfl eqm35 rfl rfl (eq35r rwK), ?_⟩) | (refine gF ?_; (refine j_buildSlice rfl rfl rfl rfl rfl rfl rfl rfl rfl rfl rfl rfl ?_; intro b)) | (refine j_qe rfl rfl rfl ?_; first | refine ⟨_, q_len_slice rfl rfl rfl rfl, ?_⟩ | refine ⟨_, q_build_struct rfl rfl rfl rfl rfl, ?_⟩ | refine ⟨_, q_field_ext rfl rfl rfl rfl rfl, ?_⟩)) | (refine gSC ?_; first | refine sc_mv rfl ?_ | refine sc_q rfl ?_ | refine sc_region ?_) | (refine gSQ ?_; first | refine sq_go rfl ?_ | refine sq_mv rfl ?_ | refine sq_ende (by first | exact .inl rfl | exact .inr rfl) rfl rfl ⟨_, (RVs.cons (RV.tmp rfl) (RVs.nil)), ?_⟩) | refine j_nil ?_ | ((first | refine j_guard rfl rfl rfl rfl rfl ?_ ?_ | refine sc_cond rfl ?_ ?_) <;> intro hc <;> (first | exact absurd hc (by decide) | ((try simp only [engHC] at hc) <;> skip))))
      all_goals first | ((intro w' hS; refine ⟨?_, hS.below⟩; simp only [pack]); done) | ((intro w' hS; refine ⟨?_, hS.below⟩; simp only [pack]); exact rb (by simp))
end Go.Proofs.YtmakokbpadmfbaaGreat

/-
  ServiceLater.
-/
namespace Go.Proofs.YtmakokbpadmfbaaGreat
open Go.RowKit Eng
set_option linter.unusedVariables false
set_option linter.unusedSimpArgs false
set_option maxHeartbeats 8000000
attribute [local irreducible] SC SQ J Qt Calls Iterates LSub FSub
theorem std4_ok : sdsB std4 = true := by decide +kernel
theorem mk1_ok (i : Nat) (x : Th) (hx : thOk x) (hi : i < 999999) : okSn (mk1 i x) ∧ (mk1 i x).it = 1 + i ∧ (mk1 i x).ac ≤ 20000 := by
  obtain ⟨⟨p1, p2⟩, ⟨p3, p4⟩, ⟨p5, p6⟩⟩ := hx
  have key : ∀ c f t, 1 ≤ c → 1 ≤ f → f ≤ 10 → 1 ≤ t → t ≤ 10 → okSn ⟨1 + i, c, f, t, x.ac % 20000, if x.dl = true then x.ac % 20000 + x.tk % 8000 else -1⟩ := by
    intro c f t h1 h2 h3 h4 h5
    unfold okSn
    dsimp only
    split <;> omega
  unfold mk1
  dsimp only
  have hcase : ∀ (k : Nat) (s : Sd), std4[k]? = some s → 1 ≤ s.cl ∧ 1 ≤ s.fr ∧ s.fr ≤ 10 ∧ 1 ≤ s.to ∧ s.to ≤ 10 := by
    have h9 : std4.all (fun s : Sd => decide (1 ≤ s.cl ∧ 1 ≤ s.fr ∧ s.fr ≤ 10 ∧ 1 ≤ s.to ∧ s.to ≤ 10)) = true := by decide
    intro k s hs
    exact of_decide_eq_true (List.all_eq_true.1 h9 s (List.mem_of_getElem? hs))
  split
  · rename_i s hs
    obtain ⟨a1, a2, a3, a4, a5⟩ := hcase _ s hs
    exact ⟨key _ _ _ a1 a2 a3 a4 a5, rfl, by dsimp only; omega⟩
  · exact ⟨key 2 3 1 (by omega) (by omega) (by omega) (by omega) (by omega), rfl, by dsimp only; omega⟩
end Go.Proofs.YtmakokbpadmfbaaGreat

/-
  service, plain: the rows of items in closed form.
-/
namespace Go.Proofs.YtmakokbpadmfbaaGreat
open Go.RowKit Eng
set_option linter.unusedVariables false
set_option linter.unusedSimpArgs false
set_option maxHeartbeats 8000000
attribute [local irreducible] SC SQ J Qt Calls Iterates LSub FSub
theorem outF_range (l : List Sd) (x : Sn) (now : Int) : outF l x now = 1 ∨ outF l x now = 2 ∨ outF l x now = 3 ∨ outF l x now = 4 := by
  unfold outF
  (repeat' split) <;> simp
def nOf (of : Sn → Lane) (out : Sn → Int) (s : List Sn) (k : Lane) (o : Int) : Nat := s.countP fun x => decide (of x = k ∧ out x = o)
section
variable {of : Sn → Lane} {out : Sn → Int}
theorem nOf_snoc (s : List Sn) (x : Sn) (k : Lane) (o : Int) : nOf of out (s ++ [x]) k o = nOf of out s k o + if of x = k ∧ out x = o then 1 else 0 := by
  unfold nOf
  rw [List.countP_append]
  congr 1
  simp only [List.countP_cons, List.countP_nil, decide_eq_true_eq]
  omega
theorem rowAt_eq (hout : ∀ x, out x = 1 ∨ out x = 2 ∨ out x = 3 ∨ out x = 4) (s : List Sn) (k : Lane) :
    rowAt of out s k = ⟨k.cl, k.fr, k.to, (nOf of out s k 2 : Int) + nOf of out s k 3, nOf of out s k 2, nOf of out s k 1, nOf of out s k 4, 0, 0⟩ := by
  induction s using snoc_ind with
  | h0 => rfl
  | h1 s x ih =>
    rw [rowAt_snoc, ih]
    simp only [nOf_snoc]
    by_cases h : of x = k
    · rw [if_pos h]
      unfold cntR
      rcases hout x with h1 | h1 | h1 | h1 <;> rw [h1] <;> simp [h, rw_eq] <;> omega
    · rw [if_neg h]
      simp [h]
theorem nOf_perm {s s' : List Sn} (h : s.Perm s') (k : Lane) (o : Int) : nOf of out s k o = nOf of out s' k o := h.countP_eq _
theorem rowAt_perm (hout : ∀ x, out x = 1 ∨ out x = 2 ∨ out x = 3 ∨ out x = 4) {s s' : List Sn} (h : s.Perm s') (k : Lane) : rowAt of out s k = rowAt of out s' k := by
  rw [rowAt_eq hout, rowAt_eq hout]
  simp only [nOf_perm h]
theorem sortL_same {K K' : List Lane} (h1 : K.Nodup) (h2 : K'.Nodup) (h : ∀ k, k ∈ K ↔ k ∈ K') : sortL K = sortL K' := by
  have hp : K.Perm K' := (List.perm_ext_iff_of_nodup h1 h2).2 h
  have a2 := sortL_lt h1
  refine sortL_spec ((sortL_perm K).trans hp) (a2.imp fun {a b} h => ?_) h2
  rw [ltS_ln, decide_eq_false_iff_not]
  unfold lnLt at *
  omega
theorem sortL_memO {s : List Sn} {k : Lane} : k ∈ sortL (lanesO of s) ↔ ∃ x ∈ s, of x = k := by rw [(sortL_perm _).mem_iff, lanesO_mem]
theorem lanes_perm {s s' : List Sn} (h : s.Perm s') : sortL (lanesO of s) = sortL (lanesO of s') :=
  sortL_same (lanesO_nodup s) (lanesO_nodup s') fun k => by rw [lanesO_mem, lanesO_mem]; simp only [h.mem_iff]
end
/-! ### Right items -/
theorem snB_iff : ∀ (seen : List Int) (l : List Sn), snB seen l = true ↔ (∀ x ∈ l, okSn x) ∧ (l.map (·.it)).Nodup ∧ ∀ x ∈ l, x.it ∉ seen
  | seen, [] => by simp [snB]
  | seen, x :: l => by
    unfold snB
    rw [Bool.and_eq_true, Bool.and_eq_true, decide_eq_true_eq, snB_iff]
    simp only [List.mem_cons, List.mem_append, List.map_cons, List.nodup_cons, List.mem_map, Bool.not_eq_true', decide_eq_false_iff_not]
    constructor
    · rintro ⟨h1, h2, h3, h4, h5⟩
      refine ⟨fun y hy => ?_, ⟨fun ⟨y, hy, he⟩ => h5 y hy (.inr (.inl he)), h4⟩, fun y hy => ?_⟩
      · rcases hy with rfl | hy
        · exact h1
        · exact h3 y hy
      · rcases hy with rfl | hy
        · exact h2
        · exact fun h => h5 y hy (.inl h)
    · rintro ⟨h1, ⟨h2, h3⟩, h4⟩
      refine ⟨h1 x (.inl rfl), h4 x (.inl rfl), fun y hy => h1 y (.inr hy), h3, fun y hy h => ?_⟩
      rcases h with h | h | h
      · exact h4 y (.inr hy) h
      · exact h2 ⟨y, hy, h⟩
      · cases h
theorem sentB_iff (l : List Sn) : sentB l = true ↔ l.length ≤ 2000 ∧ (∀ x ∈ l, okSn x) ∧ (l.map (·.it)).Nodup := by
  unfold sentB
  rw [Bool.and_eq_true, decide_eq_true_eq, snB_iff]
  simp
theorem sentB_perm {l l' : List Sn} (h : l.Perm l') (hs : sentB l = true) : sentB l' = true := by
  rw [sentB_iff] at *
  exact ⟨h.length_eq ▸ hs.1, fun x hx => hs.2.1 x (h.mem_iff.2 hx), (h.map _).nodup_iff.1 hs.2.2⟩
theorem made_mem {l : List Th} {i : Nat} {y : Sn} (hl : i ≤ l.length) (h : y ∈ madeN l i) : ∃ j x, j < i ∧ l[j]? = some x ∧ y = mk1 j x := by
  unfold madeN at h
  rw [List.mem_map] at h
  obtain ⟨j, hj, rfl⟩ := h
  rw [List.mem_range] at hj
  obtain ⟨x, hx⟩ : ∃ x, l[j]? = some x := ⟨_, List.getElem?_eq_getElem (by omega)⟩
  exact ⟨j, x, hj, hx, by simp [List.getD, hx]⟩
theorem mk1_it (i : Nat) (x : Th) : (mk1 i x).it = 1 + i := by
  unfold mk1
  dsimp only
  split <;> rfl
theorem made_its (l : List Th) (i : Nat) : (madeN l i).map (·.it) = (List.range i).map fun j : Nat => 1 + (j : Int) := by
  unfold madeN
  rw [List.map_map]
  refine List.map_congr_left fun j _ => ?_
  exact mk1_it j _
theorem made_ok {l : List Th} (hok : ∀ x ∈ l, thOk x) : sentB (madeF l) = true ∧ ∀ y ∈ madeF l, okSn y ∧ y.ac ≤ 20000 := by
  have h0 : ∀ y ∈ madeF l, okSn y ∧ y.ac ≤ 20000 := fun y hy => by
    obtain ⟨j, x, hj, hx, rfl⟩ := made_mem (Nat.min_le_left _ _) hy
    have := mk1_ok j x (hok x (List.mem_of_getElem? hx)) (by omega)
    exact ⟨this.1, this.2.2⟩
  refine ⟨?_, h0⟩
  rw [sentB_iff]
  refine ⟨by unfold madeF; rw [madeN_len]; omega, fun y hy => (h0 y hy).1, ?_⟩
  unfold madeF
  rw [made_its]
  refine List.Pairwise.map _ (fun a b (h : a ≠ b) he => h (by omega)) List.nodup_range
theorem made_len (l : List Th) : (madeF l).length = min l.length 2000 := by unfold madeF; rw [madeN_len]
/-- What Measure and Classes answer where all is right. -/
theorem ms_right {of : Sn → Lane} {l : List Sd} {s : List Sn} {now risk : Int} (h1 : sdsB l = true) (h2 : sentB s = true) (h3 : timeI now) (h4 : 1 ≤ risk ∧ risk ≤ 2000) (h5 : s.length ≤ 500) : msF of l s now risk = (0, msRows of l s now risk) := by
  unfold msF
  rw [if_pos ⟨h1, h2, h3, h4.1, h4.2⟩, if_neg]
  unfold msLong
  rw [Bool.not_eq_true, List.any_eq_false]
  intro k _
  rw [decide_eq_true_eq]
  have := rowAt_small (of := of) (out := fun x => outF l x now) s k
  omega
/-- A row, with its bounds. -/
def rowF (of : Sn → Lane) (l : List Sd) (s : List Sn) (now risk : Int) (k : Lane) : Rw := bndR (rowAt of (fun x => outF l x now) s k) risk
theorem msRows_eq (of : Sn → Lane) (l : List Sd) (s : List Sn) (now risk : Int) : msRows of l s now risk = (sortL (lanesO of s)).map (rowF of l s now risk) := rfl
theorem msRows_perm {of : Sn → Lane} {l : List Sd} {s s' : List Sn} {now risk : Int} (h : s.Perm s') : msRows of l s now risk = msRows of l s' now risk := by
  unfold msRows
  rw [lanes_perm h]
  refine List.map_congr_left fun k _ => ?_
  rw [rowAt_perm (fun x => outF_range l x now) h]
end Go.Proofs.YtmakokbpadmfbaaGreat

/-
  ServiceOrder, plain: the transit of a pair.
-/
namespace Go.Proofs.YtmakokbpadmfbaaGreat
open Go.RowKit Eng
set_option linter.unusedVariables false
set_option linter.unusedSimpArgs false
set_option maxHeartbeats 8000000
attribute [local irreducible] SC SQ J Qt Calls Iterates LSub FSub
theorem sortI_permE (l : List Int) : (sortI l).Perm l := List.mergeSort_perm l _
theorem sortI_up (l : List Int) : (sortI l).Pairwise (fun a b => a ≤ b) := by
  have := List.pairwise_mergeSort (le := fun x y : Int => decide (x ≤ y)) (fun a b c h1 h2 => by simp only [decide_eq_true_eq] at *; omega) (fun a b => by simp only [Bool.or_eq_true, decide_eq_true_eq]; omega) l
  exact this.imp fun h => of_decide_eq_true h
theorem sortI_same {l l' : List Int} (h : l.Perm l') : sortI l = sortI l' :=
  ((sortI_permE l).trans (h.trans (sortI_permE l').symm)).eq_of_pairwise (le := fun a b => a ≤ b) (fun a b _ _ h1 h2 => by omega) (sortI_up l) (sortI_up l')
theorem trL_perm {s s' : List Sn} (h : s.Perm s') (cl fr to now : Int) : (trL s cl fr to now).Perm (trL s' cl fr to now) := by
  unfold trL
  exact (h.filter _).map _
theorem trF_perm {s s' : List Sn} (h : s.Perm s') (h2 : sentB s = true) (cl fr to now q : Int) : trF s cl fr to now q = trF s' cl fr to now q := by
  have e := trL_perm h cl fr to now
  have h3 := sentB_perm h h2
  have hiff : trOk s now q ↔ trOk s' now q := by unfold trOk; rw [h2, h3]
  unfold trF
  rw [e.length_eq, sortI_same e]
  by_cases h9 : trOk s now q
  · rw [if_pos h9, if_pos (hiff.1 h9)]
  · rw [if_neg h9, if_neg (fun h => h9 (hiff.2 h))]
theorem rank_up {n p q : Nat} (h : p ≤ q) : rank n p ≤ rank n q := by
  unfold rank
  have : p * n ≤ q * n := Nat.mul_le_mul_right _ h
  omega
theorem trF_three {s : List Sn} (h : sentB s = true) {now : Int} (ht : timeI now) (cl fr to : Int) (q : Nat) (hq : q ≤ 10000) :
    ((trL s cl fr to now).length = 0 ∧ trF s cl fr to now q = (0, 6) ∧ trF s cl fr to now 0 = (0, 6) ∧ trF s cl fr to now 10000 = (0, 6)) ∨
    (∃ x lo hi, trF s cl fr to now q = (x, 0) ∧ trF s cl fr to now 0 = (lo, 0) ∧ trF s cl fr to now 10000 = (hi, 0) ∧ lo ≤ x ∧ x ≤ hi ∧ 0 ≤ lo) := by
  have hok : ∀ p : Int, 0 ≤ p ∧ p ≤ 10000 → trOk s now p := fun p hp => ⟨h, ht, hp⟩
  by_cases h0 : (trL s cl fr to now).length = 0
  · refine .inl ⟨h0, ?_, ?_, ?_⟩ <;> (unfold trF; rw [if_pos (hok _ (by omega)), if_pos h0])
  · have hpos : 0 < (trL s cl fr to now).length := by omega
    have hge : ∀ x ∈ trL s cl fr to now, 0 ≤ x := fun x hx => by
      unfold trL at hx
      rw [List.mem_map] at hx
      obtain ⟨y, hy, rfl⟩ := hx
      rw [List.mem_filter] at hy
      have h1 := ((sentB_iff s).1 h).2.1 y hy.1
      have h2 := hy.2
      unfold trSel delB at h2
      simp only [Bool.and_eq_true, decide_eq_true_eq] at h2
      unfold okSn at h1
      have := h1.2.2.2.2.2.2.2.2.2 h2.2.1
      omega
    have hl : (sortI (trL s cl fr to now)).length = (trL s cl fr to now).length := (sortI_permE _).length_eq
    have hex : ∀ p : Nat, p ≤ 10000 → ∃ x, (sortI (trL s cl fr to now))[rank (trL s cl fr to now).length p]? = some x ∧ trF s cl fr to now p = (x, 0) := fun p hp => by
      obtain ⟨x, hx⟩ : ∃ x, (sortI (trL s cl fr to now))[rank (trL s cl fr to now).length p]? = some x := ⟨_, List.getElem?_eq_getElem (by rw [hl]; exact rank_lt hpos hp)⟩
      refine ⟨x, hx, ?_⟩
      unfold trF
      rw [if_pos (hok _ (by omega)), if_neg h0, Int.toNat_natCast, hx]
      rfl
    have hup := List.pairwise_iff_getElem.1 (sortI_up (trL s cl fr to now))
    have hle : ∀ p q x y, p ≤ q → (sortI (trL s cl fr to now))[rank (trL s cl fr to now).length p]? = some x → (sortI (trL s cl fr to now))[rank (trL s cl fr to now).length q]? = some y → x ≤ y := fun p q x y hpq hx hy => by
      obtain ⟨z1, e1⟩ := List.getElem?_eq_some_iff.1 hx
      obtain ⟨z2, e2⟩ := List.getElem?_eq_some_iff.1 hy
      rcases Nat.lt_or_ge (rank (trL s cl fr to now).length p) (rank (trL s cl fr to now).length q) with h3 | h3
      · have := hup _ _ z1 z2 h3
        rw [e1, e2] at this
        exact this
      · have h4 : rank (trL s cl fr to now).length p = rank (trL s cl fr to now).length q := Nat.le_antisymm (rank_up hpq) h3
        rw [h4, hy] at hx
        injection hx with hx
        omega
    obtain ⟨x, hx1, hx2⟩ := hex q hq
    obtain ⟨lo, hlo1, hlo2⟩ := hex 0 (by omega)
    obtain ⟨hi, hhi1, hhi2⟩ := hex 10000 (by omega)
    refine .inr ⟨x, lo, hi, hx2, hlo2, hhi2, hle 0 q _ _ (by omega) hlo1 hx1, hle q 10000 _ _ hq hx1 hhi1, ?_⟩
    exact hge lo ((sortI_permE _).mem_iff.1 (List.mem_of_getElem? hlo1))
/-- A pair without a delivery has no item that is kept. -/
theorem kept_none {s : List Sn} {l : List Sd} {now : Int} {k : Lane} (h : (trL s k.cl k.fr k.to now).length = 0) : nOf ofM (fun x => outF l x now) s k 2 = 0 := by
  unfold nOf
  rw [List.countP_eq_zero]
  intro x hx
  rw [decide_eq_true_eq]
  rintro ⟨h1, h2⟩
  have hd : delB x now = true := by
    unfold outF at h2
    dsimp only at h2
    split at h2
    · omega
    · split at h2
      · rename_i h3; exact h3.1
      · split at h2 <;> omega
  have : x ∈ s.filter (trSel k.cl k.fr k.to now) := by
    rw [List.mem_filter]
    refine ⟨hx, ?_⟩
    unfold trSel
    subst h1
    rw [hd, Bool.and_true, decide_eq_true_eq]
    exact ⟨rfl, rfl, rfl⟩
  unfold trL at h
  rw [List.length_map] at h
  rw [List.length_eq_zero_iff.1 h] at this
  cases this
theorem turn_perm (s : List Sn) (k : Nat) : s.Perm (s.drop k ++ s.take k) := by
  have := (List.perm_append_comm (l₁ := s.take k) (l₂ := s.drop k))
  rwa [List.take_append_drop] at this
end Go.Proofs.YtmakokbpadmfbaaGreat

/-
  service, plain: the sums of the rows of pairs are the rows of classes.
-/
namespace Go.Proofs.YtmakokbpadmfbaaGreat
open Go.RowKit Eng
set_option linter.unusedVariables false
set_option linter.unusedSimpArgs false
set_option maxHeartbeats 8000000
attribute [local irreducible] SC SQ J Qt Calls Iterates LSub FSub
def sumI (cl : Int) (f : Rw → Int) (P : List Rw) : Int := (P.map fun p => if p.cl = cl then f p else 0).sum
def sumR (cl : Int) (P : List Rw) : Rw := ⟨cl, 0, 0, sumI cl (·.tr) P, sumI cl (·.kp) P, sumI cl (·.op) P, sumI cl (·.ot) P, 0, 0⟩
section
variable {l : List Sd} {s : List Sn} {now risk : Int}
theorem pair_mem {p : Rw} (h : p ∈ msRows ofM l s now risk) : ∃ x ∈ s, p = rowF ofM l s now risk (ofM x) := by
  rw [msRows_eq, List.mem_map] at h
  obtain ⟨k, hk, rfl⟩ := h
  obtain ⟨x, hx, rfl⟩ := sortL_memO.1 hk
  exact ⟨x, hx, rfl⟩
theorem rowF_eq (of : Sn → Lane) (k : Lane) : rowF of l s now risk k = bndR ⟨k.cl, k.fr, k.to, (nOf of (fun x => outF l x now) s k 2 : Int) + nOf of (fun x => outF l x now) s k 3, nOf of (fun x => outF l x now) s k 2, nOf of (fun x => outF l x now) s k 1, nOf of (fun x => outF l x now) s k 4, 0, 0⟩ risk := by
  unfold rowF
  rw [rowAt_eq (fun x => outF_range l x now)]
def metN (C P : List Rw) : Nat := (C.map fun c => P.countP fun p => decide (p.cl = c.cl)).sum
end
end Go.Proofs.YtmakokbpadmfbaaGreat

/-
  ServiceSums.
-/
namespace Go.Proofs.YtmakokbpadmfbaaGreat
open Go.RowKit Eng
set_option linter.unusedVariables false
set_option linter.unusedSimpArgs false
set_option maxHeartbeats 8000000
attribute [local irreducible] SC SQ J Qt Calls Iterates LSub FSub
theorem rows_len {of : Sn → Lane} {l : List Sd} {s : List Sn} {now risk : Int} : (msRows of l s now risk).length ≤ s.length := by
  rw [msRows_eq, List.length_map, (sortL_perm _).length_eq]
  exact lanesO_len s
end Go.Proofs.YtmakokbpadmfbaaGreat

/-
  ServiceOrder.
-/
namespace Go.Proofs.YtmakokbpadmfbaaGreat
open Go.RowKit Eng
set_option linter.unusedVariables false
set_option linter.unusedSimpArgs false
set_option maxHeartbeats 8000000
attribute [local irreducible] SC SQ J Qt Calls Iterates LSub FSub
theorem pick0_c (x : Int) (w : World) : Calls Tryz.prog 16 #[.int .i64 x, .int .i64 0] w fun e w' => e = .returned (.int .i64 0) ∧ Below w.heap.size w w' := by
  refine eng_start (n := 16) (args := [.int .i64 x, .int .i64 0]) tab tab_ok fns fns_ok [.tmp 4] Tryz.func16 rfl rfl rfl rfl ?_
  repeat' (first | (refine gJ ?_; refine js rfl rfl rfl rfl ?_) | (refine gSC ?_; first | refine sc_mv rfl ?_ | refine sc_q rfl ?_ | refine sc_region ?_) | (refine gSQ ?_; first | refine sq_go rfl ?_ | refine sq_mv rfl ?_ | refine sq_ende (by first | exact .inl rfl | exact .inr rfl) rfl rfl ⟨_, (RVs.cons (RV.tmp rfl) (RVs.nil)), ?_⟩) | refine j_nil ?_ | ((refine sc_cond rfl ?_ ?_) <;> intro hc <;> (first | exact absurd hc (by decide) | ((try simp only [engHC] at hc) <;> skip))))
  all_goals (intro w' hS; refine ⟨?_, hS.below⟩; simp only [pack])
theorem reads_drop {w : World} {s : List Sn} {ns k c : Nat} {A : Option Addr} (hns : ns = s.length) (hs : Sl A ns c) (hk : k ≤ ns) (h : RS w 6 snC A s) :
    ((if c = k then A else A.map (·.add (k * 6))) = none → ns - k = 0 ∧ c - k = 0) ∧ ((s.drop k).flatMap snC).length = (ns - k) * 6 ∧ (∀ ad, (if c = k then A else A.map (·.add (k * 6))) = some ad → ∀ j u, ((s.drop k).flatMap snC)[j]? = some u → w.cell? (ad.add j) = some u) ∧ ∀ u ∈ (s.drop k).flatMap snC, u.oneCell' = true := by
  subst hns
  have hn : (if c = k then A else A.map (·.add (k * 6))) = none → A = none := fun e => by
    split at e
    · exact e
    · exact Option.map_eq_none_iff.1 e
  have := reads_ext (f := snC) (sz := 6) (c := c - k) (fun _ => rfl) (fun _ => rfl) (RS.dropG h hs k) (fun e => by
    have := hs.nil (hn e)
    exact ⟨List.length_eq_zero_iff.1 (by rw [List.length_drop]; omega), by omega⟩)
  rw [List.length_drop] at this
  exact this
theorem reads_take {w : World} {s : List Sn} {ns k c : Nat} {A : Option Addr} (hns : ns = s.length) (hs : Sl A ns c) (hk : k ≤ ns) (h : RS w 6 snC A s) :
    (A = none → k = 0 ∧ c = 0) ∧ ((s.take k).flatMap snC).length = k * 6 ∧ (∀ ad, A = some ad → ∀ j u, ((s.take k).flatMap snC)[j]? = some u → w.cell? (ad.add j) = some u) ∧ ∀ u ∈ (s.take k).flatMap snC, u.oneCell' = true := by
  subst hns
  have := reads_ext (f := snC) (sz := 6) (c := c) (fun _ => rfl) (fun _ => rfl) (RS.take h k) (fun e => by
    have := hs.nil e
    exact ⟨List.length_eq_zero_iff.1 (by rw [List.length_take]; omega), by omega⟩)
  rw [List.length_take, Nat.min_eq_left hk] at this
  exact this
set_option maxRecDepth 8000 in
set_option maxHeartbeats 16000000 in
theorem Order_c (A : Option Addr) (c : Nat) (l0 : List Th) (y a z q0 : Int) (w : World) (hsl : Sl A l0.length c) (hR : RS w 4 thC A l0) (hok : ∀ x ∈ l0, thOk x) (hy : 0 ≤ y ∧ y ≤ 255) (ha : inI a) (hz : inI z) (hq0 : inI q0) :
    Calls Tryz.prog 10 #[.slice A l0.length c, .int .u8 y, .int .i64 a, .int .i64 z, .int .i64 q0] w fun e w' => e = .returned (.bool true) ∧ Below w.heap.size w w' := by
  obtain ⟨N, hN⟩ : ∃ N : Nat, N = min l0.length 100 := ⟨_, rfl⟩
  have hN2 : (if (100 : Int) < l0.length then (100 : Int) else l0.length) = (N : Int) := by split <;> omega
  have hR2 := RS.take hR N
  have hok2 : ∀ x ∈ l0.take N, thOk x := fun x hx => hok x (List.mem_of_mem_take hx)
  have hlen : (l0.take N).length = N := by rw [List.length_take]; omega
  generalize hl : l0.take N = l at *
  have hmk := fun w' h => made_c A c l w' (by omega) hok2 h
  have hmo := (made_ok hok2)
  have hml := made_len l
  generalize madeF l = s at *
  have hta := fun w' => time_c a w' ha
  have ha1 : timeI (a % 40000) := ⟨Int.emod_nonneg _ (by omega), by have := Int.emod_lt_of_pos a (show (0 : Int) < 40000 by omega); omega⟩
  generalize a % 40000 = now at *
  have hp3 := fun w' => pick_c z 2000 w' hz (by omega)
  have hz2 : 0 ≤ z % 2000 ∧ z % 2000 < 2000 := ⟨Int.emod_nonneg _ (by omega), Int.emod_lt_of_pos _ (by omega)⟩
  obtain ⟨rk, hrk⟩ : ∃ r : Nat, 1 + z % 2000 = (r : Int) := ⟨(1 + z % 2000).toNat, by omega⟩
  have hrk2 : 1 ≤ rk ∧ rk ≤ 2000 := by omega
  generalize z % 2000 = z9 at *
  have hpq := fun w' => pick_c q0 10001 w' hq0 (by omega)
  obtain ⟨qn, hqn⟩ : ∃ r : Nat, q0 % 10001 = (r : Int) := ⟨(q0 % 10001).toNat, by have := Int.emod_nonneg q0 (show (10001 : Int) ≠ 0 by omega); omega⟩
  have hqn2 : qn ≤ 10000 := by have := Int.emod_lt_of_pos q0 (show (0 : Int) < 10001 by omega); omega
  rw [hqn] at hpq
  have hs100 : s.length ≤ 100 := by omega
  obtain ⟨ns, hns⟩ : ∃ n, n = s.length := ⟨_, rfl⟩
  obtain ⟨k, hk, hpk⟩ : ∃ k : Nat, (0 < ns → k < ns) ∧ (ns = 0 → k = 0) ∧ ∀ w', Calls Tryz.prog 16 #[.int .i64 y, .int .i64 (ns : Int)] w' fun e w'' => e = .returned (.int .i64 k) ∧ Below w'.heap.size w' w'' := by
    rcases Nat.eq_zero_or_pos ns with h | h
    · exact ⟨0, fun h2 => by omega, fun _ => rfl, fun w' => by rw [h]; exact pick0_c y w'⟩
    · have h1 := Int.emod_nonneg y (show (ns : Int) ≠ 0 by omega)
      have h2 := Int.emod_lt_of_pos y (show (0 : Int) < ns by omega)
      refine ⟨(y % ns).toNat, fun _ => by omega, fun h => by omega, fun w' => ?_⟩
      rw [show (((y % ns).toNat : Nat) : Int) = y % ns by omega]
      exact pick_c y ns w' ⟨by omega, by omega⟩ (by omega)
  obtain ⟨hk0, hpk⟩ := hpk
  have hkn : k ≤ ns := by omega
  have hperm := turn_perm s k
  have hMs := fun A c B bc w' h h2 => Measure_c A c std4 B bc s now rk w' (by simp [std4]) (by omega) h h2
  obtain ⟨t, ht⟩ : ∃ t, t = s.drop k ++ s.take k := ⟨_, rfl⟩
  rw [← ht] at hperm
  have htl : t.length = ns := by rw [← hperm.length_eq, hns]
  have hMt := fun A c B bc w' h h2 => Measure_c A c std4 B bc t now rk w' (by simp [std4]) (by omega) h h2
  rw [ms_right std4_ok hmo.1 ha1 (by omega) (by omega)] at hMs
  rw [ms_right std4_ok (sentB_perm hperm hmo.1) ha1 (by omega) (by omega), ← msRows_perm hperm] at hMt
  dsimp only at hMs hMt
  have hTs := fun B bc cl fr to (q : Nat) w' h2 (hq : q ≤ 10000) => Transit_ok B bc s cl fr to now q w' h2 ⟨hmo.1, ha1, by omega, by omega⟩
  have hTt := fun B bc cl fr to (q : Nat) w' h2 (hq : q ≤ 10000) => Transit_ok B bc t cl fr to now q w' h2 ⟨sentB_perm hperm hmo.1, ha1, by omega, by omega⟩
  have hPl := rows_len (of := ofM) (l := std4) (s := s) (now := now) (risk := rk)
  have hrow : ∀ p ∈ msRows ofM std4 s now rk, (trF s p.cl p.fr p.to now qn = (0, 6) ∧ trF s p.cl p.fr p.to now 0 = (0, 6) ∧ trF s p.cl p.fr p.to now 10000 = (0, 6) ∧ p.kp = 0) ∨
      (∃ x lo hi, trF s p.cl p.fr p.to now qn = (x, 0) ∧ trF s p.cl p.fr p.to now 0 = (lo, 0) ∧ trF s p.cl p.fr p.to now 10000 = (hi, 0) ∧ lo ≤ x ∧ x ≤ hi ∧ 0 ≤ lo) := fun p hp => by
    obtain ⟨x, hx, rfl⟩ := pair_mem hp
    rw [rowF_eq]
    rcases trF_three hmo.1 ha1 (ofM x).cl (ofM x).fr (ofM x).to qn hqn2 with ⟨h0, h1, h2, h3⟩ | h
    · refine .inl ⟨h1, h2, h3, ?_⟩
      have := kept_none (l := std4) h0
      show (nOf ofM (fun x => outF std4 x now) s (ofM x) 2 : Int) = 0
      omega
    · exact .inr h
  have htp := fun cl fr to q => trF_perm (now := now) hperm hmo.1 cl fr to q
  generalize msRows ofM std4 s now rk = P at *
  obtain ⟨np, hnp⟩ : ∃ n, n = P.length := ⟨_, rfl⟩
  rw [← hnp] at hMs hMt hPl
  rw [← hrk] at hMs hMt
  rw [← hns] at hMs hTs
  rw [htl] at hMt hTt
  have h0k : ns = 0 + (ns - k) + k := by omega
  refine eng_start (n := 243) (args := [.slice A l0.length c, .int .u8 y, .int .i64 a, .int .i64 z, .int .i64 q0]) tab tab_ok fns fns_ok [.tmp 10] Tryz.func10 rfl rfl rfl rfl ?_
  repeat' (first | (refine gJ ?_; first | refine js rfl rfl rfl rfl ?_ | refine jar rfl rfl rfl rfl rfl rfl rfl (by omega) ?_ | (refine gcall rfl rfl ?_; first | (refine j_qc (f := 13) rfl rfl rfl rfl rfl rfl rfl ?_; refine ⟨_, (fun w' _ => awake_c w'), ?_⟩) | (refine j_qc (f := 15) rfl rfl rfl rfl rfl rfl rfl ?_; refine ⟨_, (fun w' _ => hta w'), ?_⟩) | (refine j_qc (f := 16) rfl rfl rfl rfl rfl rfl rfl ?_; refine ⟨_, (fun w' _ => hp3 w'), ?_⟩) | (refine j_qc (f := 16) rfl rfl rfl rfl rfl rfl rfl ?_; refine ⟨_, (fun w' _ => hpq w'), ?_⟩) | (refine j_qc (f := 16) rfl rfl rfl rfl rfl rfl rfl ?_; refine ⟨_, (fun w' _ => hpk w'), ?_⟩)) | (refine gcall rfl rfl ?_; refine gF ?_; refine j_callN (f := 14) rfl rfl rfl rfl rfl rfl rfl (fun x : Value × Value => .tuple #[x.1, x.2]) (fun _ => True) (fun x => [.own x.1 43 4 4 (std4.flatMap sdC), .own x.2 45 6 ns (s.flatMap snC)]) (fun w' hs => hns ▸ hlen ▸ hmk w' (hR2.st hs)) (fun _ => trivial) ?_; rintro ⟨v1, v2⟩ _; refine j_owns (v := v1) (by (repeat constructor)) ?_; rintro a1 c1 rfl hs1; refine j_owns (v := v2) (by (repeat constructor)) ?_; rintro a2 c2 rfl hs2; have hre1 := fun w' (h : RS w' 6 snC a2 s) => reads_drop hns hs2 hkn h; have hre2 := fun w' (h : RS w' 6 snC a2 s) => reads_take hns hs2 hkn h) | (refine j_qe rfl rfl rfl ?_; refine ⟨_, q_minr rfl rfl rfl hN2, ?_⟩) | (refine j_qe rfl rfl rfl ?_; refine ⟨_, q_sliceHi N rfl rfl rfl rfl rfl (by have := hsl.le; omega), ?_⟩) | (refine gF ?_; refine j_build0 rfl rfl rfl rfl rfl rfl ?_; intro b8) | (refine j_qe rfl rfl rfl ?_; refine ⟨_, q_sliceLoG k rfl rfl rfl rfl rfl (by omega) hs2.le, ?_⟩) | (refine j_qe rfl rfl rfl ?_; refine ⟨_, q_sliceHi k rfl rfl rfl rfl rfl (by have := hs2.le; omega), ?_⟩) | (refine gF ?_; refine j_appendS (cs := (s.drop k).flatMap snC) (n := 0) (A := if c2 = k then a2 else a2.map (·.add (k * 6))) (k := ns - k) (c := c2 - k) rfl rfl rfl rfl rfl rfl rfl rfl rfl rfl rfl (fun w' hs => hre1 w' (rs_own (f := snC) (l := s) (fun _ => rfl) hs (by (repeat constructor)) hns rfl)) (by (repeat constructor)) (by omega) (fun _ => by (repeat constructor)) ?_; intro v9) | (refine gF ?_; refine j_appendS (cs := (s.take k).flatMap snC) (n := 0 + (ns - k)) (A := a2) (k := k) (c := c2) rfl rfl rfl rfl rfl rfl rfl rfl rfl rfl rfl (fun w' hs => hre2 w' (rs_own (f := snC) (l := s) (fun _ => rfl) hs (by (repeat constructor)) hns rfl)) (by (repeat constructor)) (by omega) (fun _ => by (repeat constructor)) ?_; intro v10; refine j_owns (v := v10) (by (repeat constructor)) ?_; rintro a5 c5 rfl hs5) | (refine gcall rfl rfl ?_; refine gF ?_; refine j_callN (f := 17) rfl rfl rfl rfl rfl rfl rfl (fun v => .tuple #[v, .int .i64 0]) (fun _ => True) (fun v => [.own v 35 9 np (P.flatMap rwC)]) (fun w' hs => hMs a1 c1 a2 c2 w' (rs_own (f := sdC) (fun _ => rfl) hs (by (repeat constructor)) rfl rfl) (rs_own (f := snC) (l := s) (fun _ => rfl) hs (by (repeat constructor)) hns rfl)) (fun _ => trivial) ?_; rintro v3 _; refine j_owns (v := v3) (by (repeat constructor)) ?_; rintro a3 c3 rfl hs3) | (refine gcall rfl rfl ?_; refine gF ?_; refine j_callN (f := 17) rfl rfl rfl rfl rfl rfl rfl (fun v => .tuple #[v, .int .i64 0]) (fun _ => True) (fun v => [.own v 35 9 np (P.flatMap rwC)]) (fun w' hs => h0k ▸ hMt a1 c1 a5 c5 w' (rs_own (f := sdC) (fun _ => rfl) hs (by (repeat constructor)) rfl rfl) (rs_own (f := snC) (l := t) (fun _ => rfl) hs (by (repeat constructor)) (by omega) (by rw [ht]; simp))) (fun _ => trivial) ?_; rintro v4 _; refine j_owns (v := v4) (by (repeat constructor)) ?_; rintro a4 c4 rfl hs4) | (refine j_qe rfl rfl rfl ?_; first | refine ⟨_, q_len_slice rfl rfl rfl rfl, ?_⟩ | refine ⟨_, q_conv rfl rfl rfl rfl rfl rfl (by first | rfl | (exact i64_wrap (by omega) (by omega)) | (exact u8_wrap (by omega) (by omega)) | (exact u64_wrap (by omega) (by omega)) | (exact u16_wrap (by omega) (by omega))), ?_⟩)) | (refine gSC ?_; first | refine sc_mv rfl ?_ | refine sc_q rfl ?_ | refine sc_region ?_ | refine sc_auto 6 (.q 1 (.q 2 (.q 3 (.q 5 (.q 6 (.q 7 (.e 0 (.e 4 (.e 8 (.q 9 (.z))))))))))) mixed ?_) | (refine gJG ?_; first | refine jg_q rfl (by kernel_rfl) ?_ | refine jg_e (by kernel_rfl) rfl ?_ | refine jg_done (by kernel_rfl) ?_) | (refine gSQ ?_; first | refine jg_next ?_ | (refine gFE ?_; first | refine jg_next1 ?_ | refine jg_nextE (by first | exact LSub.refl | (repeat (first | exact LSub.refl | refine LSub.cons (by repeat (first | exact Rem.here | apply Rem.there)) ?_ | apply LSub.skip))) ?_) | refine sq_go rfl ?_) | refine j_nil ?_ | ((first | refine j_guard rfl rfl rfl rfl rfl ?_ ?_ | refine sc_cond rfl ?_ ?_) <;> intro hc <;> (first | exact absurd hc (by decide) | ((try simp only [engHC] at hc) <;> first | exact absurd trivial hc | skip))))
  have hcs : [] ++ List.flatMap snC (List.drop k s) ++ List.flatMap snC (List.take k s) = t.flatMap snC := by rw [ht]; simp
  rw [hcs, ← h0k]
  rw [← h0k] at hs5
  refine sc_loop (ι := Nat) (fun i => i ≤ np) (fun i => np - i) (fun i => [(12, .slice a2 ns c2), (13, .int .i64 now), (15, .int .i64 qn), (17, .slice a5 ns c5), (18, .slice a3 np c3), (20, .slice a4 np c4), (91, .int .i64 np), (92, .int .i64 i)]) (fun i => [.own (.slice a4 np c4) 35 9 np (P.flatMap rwC), .own (.slice a3 np c3) 35 9 np (P.flatMap rwC), .own (.slice a5 ns c5) 45 6 ns (t.flatMap snC), .own (.slice a2 ns c2) 45 6 ns (s.flatMap snC)]) 0 (Nat.zero_le _) (by (try dsimp only); exact (by repeat (first | exact FSub.nil | refine FSub.cons rfl ?_ | refine FSub.conse rfl (by congr 1; omega) ?_))) (by repeat (first | exact LSub.refl | refine LSub.cons (by repeat (first | exact Rem.here | apply Rem.there)) ?_ | apply LSub.skip)) ?_
  intro i hi
  dsimp only at hi ⊢
  by_cases hlt2 : i < np
  · obtain ⟨p, hp⟩ : ∃ p, P[i]? = some p := ⟨_, List.getElem?_eq_getElem (by omega)⟩
    obtain ⟨a3, rfl⟩ : ∃ ad, a3 = some ad := by
      cases a3 with
      | none => have := hs3.nil rfl; omega
      | some ad => exact ⟨ad, rfl⟩
    obtain ⟨a4, rfl⟩ : ∃ ad, a4 = some ad := by
      cases a4 with
      | none => have := hs4.nil rfl; omega
      | some ad => exact ⟨ad, rfl⟩
    have k1 := fun w' h2 => hTs a2 c2 p.cl p.fr p.to qn w' h2 hqn2
    have k2 := fun w' h2 => hTt a5 c5 p.cl p.fr p.to qn w' h2 hqn2
    have k3 := fun w' h2 => hTs a2 c2 p.cl p.fr p.to 0 w' h2 (by omega)
    have k4 := fun w' h2 => hTs a2 c2 p.cl p.fr p.to 10000 w' h2 (by omega)
    rw [← htp] at k2
    have hr := hrow p (List.mem_of_getElem? hp)
    clear hTs hTt hrow hMs hMt hmk htp
    rcases hr with ⟨e1, e2, e3, e4⟩ | ⟨x, lo, hi9, e1, e2, e3, e4, e5, e6⟩
    · rw [e1] at k1 k2
      rw [show ((0 : Nat) : Int) = 0 from rfl, e2] at k3
      rw [show ((10000 : Nat) : Int) = 10000 from rfl, e3] at k4
      clear e1 e2 e3
      repeat' (first | (refine gJ ?_; first | refine js rfl rfl rfl rfl ?_ | refine jar rfl rfl rfl rfl rfl rfl rfl (by omega) ?_ | (refine gcall rfl rfl ?_; first | (refine j_qc (f := 22) rfl rfl rfl rfl rfl rfl rfl ?_; refine ⟨_, (fun w' hs => k1 w' (rs_own (f := snC) (l := s) (fun _ => rfl) hs (by (repeat constructor)) hns rfl)), ?_⟩) | (refine j_qc (f := 22) rfl rfl rfl rfl rfl rfl rfl ?_; refine ⟨_, (fun w' hs => k2 w' (rs_own (f := snC) (l := t) (fun _ => rfl) hs (by (repeat constructor)) htl.symm rfl)), ?_⟩) | (refine j_qc (f := 22) rfl rfl rfl rfl rfl rfl rfl ?_; refine ⟨_, (fun w' hs => k3 w' (rs_own (f := snC) (l := s) (fun _ => rfl) hs (by (repeat constructor)) hns rfl)), ?_⟩) | (refine j_qc (f := 22) rfl rfl rfl rfl rfl rfl rfl ?_; refine ⟨_, (fun w' hs => k4 w' (rs_own (f := snC) (l := s) (fun _ => rfl) hs (by (repeat constructor)) hns rfl)), ?_⟩)) | (refine j_qe rfl rfl rfl ?_; refine ⟨_, q_index_at i rfl rfl rfl rfl rfl (by omega), ?_⟩) | (refine j_qe rfl rfl rfl ?_; refine ⟨_, q_rowA (f := rwC) (l := P) (i := i) rfl rfl rfl rfl (by (repeat constructor)) (fun _ => rfl) hp rfl, ?_⟩) | (refine j_qe rfl rfl rfl ?_; refine ⟨_, q_rowF (f := rwC) (l := P) (i := i) (off := 0) rfl rfl rfl rfl (by (repeat constructor)) (fun _ => rfl) hp rfl, ?_⟩) | (refine j_qe rfl rfl rfl ?_; refine ⟨_, q_rowF (f := rwC) (l := P) (i := i) (off := 1) rfl rfl rfl rfl (by (repeat constructor)) (fun _ => rfl) hp rfl, ?_⟩) | (refine j_qe rfl rfl rfl ?_; refine ⟨_, q_rowF (f := rwC) (l := P) (i := i) (off := 2) rfl rfl rfl rfl (by (repeat constructor)) (fun _ => rfl) hp rfl, ?_⟩) | (refine j_qe rfl rfl rfl ?_; refine ⟨_, q_rowF (f := rwC) (l := P) (i := i) (off := 4) rfl rfl rfl rfl (by (repeat constructor)) (fun _ => rfl) hp rfl, ?_⟩) | (refine j_qe rfl rfl rfl ?_; refine ⟨_, q_neS rfl eqm35 rfl rfl (eq35r p), ?_⟩) | (refine j_qe rfl rfl rfl ?_; refine ⟨_, q_field_ext rfl rfl rfl rfl rfl, ?_⟩)) | (refine gSC ?_; first | refine sc_mv rfl ?_ | refine sc_q rfl ?_ | refine sc_region ?_ | refine sc_draw rfl mixed (by kernel_rfl) ?_) | (refine gSQ ?_; first | refine sq_go rfl ?_ | refine sq_mv rfl ?_) | refine j_nil ?_ | ((first | refine j_guard rfl rfl rfl rfl rfl ?_ ?_ | refine sc_cond rfl ?_ ?_) <;> intro hc <;> (first | exact absurd hc (by decide) | ((try simp only [engHC] at hc) <;> first | (exfalso; omega) | skip))))
      all_goals
        refine sq_loop (i + 1) ?_ ?_ ?_ ?_
        · show i + 1 ≤ np; omega
        · show np - (i + 1) < np - i; omega
        · exact (by (try dsimp only); exact (by repeat (first | exact FSub.nil | refine FSub.cons rfl ?_ | refine FSub.conse rfl (by congr 1; omega) ?_)))
        · exact (by repeat (first | exact LSub.refl | refine LSub.cons (by repeat (first | exact Rem.here | apply Rem.there)) ?_ | apply LSub.skip))
    · rw [e1] at k1 k2
      rw [show ((0 : Nat) : Int) = 0 from rfl, e2] at k3
      rw [show ((10000 : Nat) : Int) = 10000 from rfl, e3] at k4
      clear e1 e2 e3
      repeat' (first | (refine gJ ?_; first | refine js rfl rfl rfl rfl ?_ | refine jar rfl rfl rfl rfl rfl rfl rfl (by omega) ?_ | (refine gcall rfl rfl ?_; first | (refine j_qc (f := 22) rfl rfl rfl rfl rfl rfl rfl ?_; refine ⟨_, (fun w' hs => k1 w' (rs_own (f := snC) (l := s) (fun _ => rfl) hs (by (repeat constructor)) hns rfl)), ?_⟩) | (refine j_qc (f := 22) rfl rfl rfl rfl rfl rfl rfl ?_; refine ⟨_, (fun w' hs => k2 w' (rs_own (f := snC) (l := t) (fun _ => rfl) hs (by (repeat constructor)) htl.symm rfl)), ?_⟩) | (refine j_qc (f := 22) rfl rfl rfl rfl rfl rfl rfl ?_; refine ⟨_, (fun w' hs => k3 w' (rs_own (f := snC) (l := s) (fun _ => rfl) hs (by (repeat constructor)) hns rfl)), ?_⟩) | (refine j_qc (f := 22) rfl rfl rfl rfl rfl rfl rfl ?_; refine ⟨_, (fun w' hs => k4 w' (rs_own (f := snC) (l := s) (fun _ => rfl) hs (by (repeat constructor)) hns rfl)), ?_⟩)) | (refine j_qe rfl rfl rfl ?_; refine ⟨_, q_index_at i rfl rfl rfl rfl rfl (by omega), ?_⟩) | (refine j_qe rfl rfl rfl ?_; refine ⟨_, q_rowA (f := rwC) (l := P) (i := i) rfl rfl rfl rfl (by (repeat constructor)) (fun _ => rfl) hp rfl, ?_⟩) | (refine j_qe rfl rfl rfl ?_; refine ⟨_, q_rowF (f := rwC) (l := P) (i := i) (off := 0) rfl rfl rfl rfl (by (repeat constructor)) (fun _ => rfl) hp rfl, ?_⟩) | (refine j_qe rfl rfl rfl ?_; refine ⟨_, q_rowF (f := rwC) (l := P) (i := i) (off := 1) rfl rfl rfl rfl (by (repeat constructor)) (fun _ => rfl) hp rfl, ?_⟩) | (refine j_qe rfl rfl rfl ?_; refine ⟨_, q_rowF (f := rwC) (l := P) (i := i) (off := 2) rfl rfl rfl rfl (by (repeat constructor)) (fun _ => rfl) hp rfl, ?_⟩) | (refine j_qe rfl rfl rfl ?_; refine ⟨_, q_neS rfl eqm35 rfl rfl (eq35r p), ?_⟩) | (refine j_qe rfl rfl rfl ?_; refine ⟨_, q_field_ext rfl rfl rfl rfl rfl, ?_⟩) | refine j_guard_undef rfl rfl rfl rfl rfl ?_) | (refine gSC ?_; first | refine sc_mv rfl ?_ | refine sc_q rfl ?_ | refine sc_region ?_ | refine sc_draw rfl mixed (by kernel_rfl) ?_) | (refine gSQ ?_; first | refine sq_go rfl ?_ | refine sq_mv rfl ?_) | refine j_nil ?_ | ((first | refine j_guard rfl rfl rfl rfl rfl ?_ ?_ | refine sc_cond rfl ?_ ?_) <;> intro hc <;> (first | exact absurd hc (by decide) | ((try simp only [engHC] at hc) <;> first | (exfalso; omega) | exact absurd trivial hc | skip))))
      all_goals
        refine sq_loop (i + 1) ?_ ?_ ?_ ?_
        · show i + 1 ≤ np; omega
        · show np - (i + 1) < np - i; omega
        · exact (by (try dsimp only); exact (by repeat (first | exact FSub.nil | refine FSub.cons rfl ?_ | refine FSub.conse rfl (by congr 1; omega) ?_)))
        · exact (by repeat (first | exact LSub.refl | refine LSub.cons (by repeat (first | exact Rem.here | apply Rem.there)) ?_ | apply LSub.skip))
  · repeat' (first | (refine gJ ?_; refine js rfl rfl rfl rfl ?_) | (refine gSC ?_; first | refine sc_mv rfl ?_ | refine sc_q rfl ?_ | refine sc_region ?_) | (refine gSQ ?_; first | refine sq_go rfl ?_ | refine sq_mv rfl ?_ | refine sq_ende (by first | exact .inl rfl | exact .inr rfl) rfl rfl ⟨_, (RVs.cons (RV.tmp rfl) (RVs.nil)), ?_⟩) | refine j_nil ?_ | ((refine sc_cond rfl ?_ ?_) <;> intro hc <;> (((try simp only [engHC] at hc) <;> first | (exfalso; omega) | skip))))
    all_goals (intro w' hS; refine ⟨?_, hS.below⟩; simp only [pack])
end Go.Proofs.YtmakokbpadmfbaaGreat
