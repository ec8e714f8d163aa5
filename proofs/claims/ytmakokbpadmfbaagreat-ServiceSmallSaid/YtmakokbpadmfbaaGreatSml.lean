/-
  In one text: Mad, Tra, Aw41, Lat, Mds, Sup, Sms, Wrp, Smp, Sml.
-/
import Derived.Test.YtmakokbpadmfbaaGreatMe4
/-
  The items that are made.
-/
namespace Go.Proofs.YtmakokbpadmfbaaGreat
open Go.RowKit Eng
set_option linter.unusedVariables false
set_option linter.unusedSimpArgs false
set_option maxHeartbeats 8000000
attribute [local irreducible] SC SQ J Qt Calls Iterates LSub FSub
end Go.Proofs.YtmakokbpadmfbaaGreat

/-
  service: Transit.
-/
namespace Go.Proofs.YtmakokbpadmfbaaGreat
open Go.RowKit Eng
set_option linter.unusedVariables false
set_option linter.unusedSimpArgs false
set_option maxHeartbeats 8000000
attribute [local irreducible] SC SQ J Qt Calls Iterates LSub FSub
def trSel (cl fr to now : Int) (x : Sn) : Bool := decide (x.cl = cl ∧ x.fr = fr ∧ x.to = to) && delB x now
def trL (s : List Sn) (cl fr to now : Int) : List Int := (s.filter (trSel cl fr to now)).map fun x => x.de - x.ac
def trOk (s : List Sn) (now q : Int) : Prop := sentB s = true ∧ timeI now ∧ 0 ≤ q ∧ q ≤ 10000
instance (s : List Sn) (now q : Int) : Decidable (trOk s now q) := by unfold trOk; exact inferInstance
def trF (s : List Sn) (cl fr to now q : Int) : Int × Int :=
  if trOk s now q then (if (trL s cl fr to now).length = 0 then (0, 6) else (((sortI (trL s cl fr to now))[rank (trL s cl fr to now).length q.toNat]?).getD 0, 0)) else (0, 2)
theorem trL_snoc {s : List Sn} {i : Nat} {x : Sn} (cl fr to now : Int) (h : s[i]? = some x) : trL (s.take (i + 1)) cl fr to now = trL (s.take i) cl fr to now ++ (if trSel cl fr to now x = true then [x.de - x.ac] else []) := by
  unfold trL
  rw [take_snocS h, List.filter_append, List.map_append]
  congr 1
  simp only [List.filter_cons, List.filter_nil]
  split <;> rfl
theorem trL_len (s : List Sn) (cl fr to now : Int) : (trL s cl fr to now).length ≤ s.length := by unfold trL; rw [List.length_map]; exact List.length_filter_le _ _
set_option maxHeartbeats 8000000 in
theorem Transit_bad (B : Option Addr) (bc : Nat) (s : List Sn) (cl fr to now q : Int) (w : World) (hsl : s.length ≤ 9223372036854775807) (h2 : RS w 6 snC B s) (hbad : ¬ trOk s now q) :
    Calls Tryz.prog 22 #[.slice B s.length bc, .int .u8 cl, .int .i64 fr, .int .i64 to, .int .i64 now, .int .i64 q] w fun e w' => e = .returned (.tuple #[.int .i64 (trF s cl fr to now q).1, .int .i64 (trF s cl fr to now q).2]) ∧ Below w.heap.size w w' := by
  have hS := fun w' h' => RightSent_c B bc s w' hsl h'
  have hT := fun w' => isTime_c now w'
  have e : trF s cl fr to now q = (0, 2) := if_neg hbad
  rw [e]
  unfold trOk at hbad
  generalize sentB s = S at *
  generalize hm : s.length = m at *
  refine eng_start (n := 77) (args := [.slice B m bc, .int .u8 cl, .int .i64 fr, .int .i64 to, .int .i64 now, .int .i64 q]) tab tab_ok fns fns_ok [.tmp 12, .tmp 13] Tryz.func22 rfl rfl rfl rfl ?_
  cases S <;> by_cases ht : timeI now
  all_goals
    first | rw [decide_eq_true ht] at hT | rw [decide_eq_false ht] at hT
    simp only [ht, true_and, false_and, and_true, and_false, not_true_eq_false, not_false_eq_true, Bool.false_eq_true] at hbad
    repeat' (first | (refine gJ ?_; first | refine js rfl rfl rfl rfl ?_ | (refine gcall rfl rfl ?_; first | (refine j_qc (f := 45) rfl rfl rfl rfl rfl rfl rfl ?_; refine ⟨_, (fun w' hs => hS w' (h2.st hs)), ?_⟩) | (refine j_qc (f := 46) rfl rfl rfl rfl rfl rfl rfl ?_; refine ⟨_, (fun w' _ => hT w'), ?_⟩))) | (refine gSC ?_; first | refine sc_mv rfl ?_ | refine sc_q rfl ?_ | refine sc_region ?_) | (refine gSQ ?_; first | refine sq_go rfl ?_ | refine sq_mv rfl ?_ | refine sq_ende (by first | exact .inl rfl | exact .inr rfl) rfl rfl ⟨_, (RVs.cons (RV.tmp rfl) (RVs.cons (RV.tmp rfl) (RVs.nil))), ?_⟩) | refine j_nil ?_ | ((first | refine j_guard rfl rfl rfl rfl rfl ?_ ?_ | refine sc_cond rfl ?_ ?_) <;> intro hc <;> (first | exact absurd hc (by decide) | ((try simp only [engHC] at hc) <;> first | (exfalso; omega) | skip))))
    all_goals (intro w' hS; refine ⟨?_, hS.below⟩; simp only [pack])
set_option maxHeartbeats 8000000 in
theorem Transit_ok (B : Option Addr) (bc : Nat) (s : List Sn) (cl fr to now q : Int) (w : World) (h2 : RS w 6 snC B s) (hok : trOk s now q) :
    Calls Tryz.prog 22 #[.slice B s.length bc, .int .u8 cl, .int .i64 fr, .int .i64 to, .int .i64 now, .int .i64 q] w fun e w' => e = .returned (.tuple #[.int .i64 (trF s cl fr to now q).1, .int .i64 (trF s cl fr to now q).2]) ∧ Below w.heap.size w w' := by
  have hm9 := (sentB_ok hok.1).1
  have hsok := (sentB_ok hok.1).2
  have hS := fun w' h' => RightSent_c B bc s w' (by omega) h'
  have hT := fun w' => isTime_c now w'
  rw [hok.1] at hS
  rw [decide_eq_true hok.2.1] at hT
  have hres : trF s cl fr to now q = if (trL s cl fr to now).length = 0 then (0, 6) else (((sortI (trL s cl fr to now))[rank (trL s cl fr to now).length q.toNat]?).getD 0, 0) := if_pos hok
  obtain ⟨hq1, hq2⟩ := hok.2.2
  clear hok
  have hsn := fun i x (hx : s[i]? = some x) => trL_snoc cl fr to now hx
  have hln := fun i => trL_len (s.take i) cl fr to now
  have hall : s.take s.length = s := List.take_length
  have htl : ∀ i, (s.take i).length ≤ i := fun i => by rw [List.length_take]; omega
  obtain ⟨q9, rfl⟩ : ∃ q9 : Nat, q = q9 := ⟨q.toNat, by omega⟩
  rw [Int.toNat_natCast] at hres
  generalize hm : s.length = m at *
  refine eng_start (n := 77) (args := [.slice B m bc, .int .u8 cl, .int .i64 fr, .int .i64 to, .int .i64 now, .int .i64 q9]) tab tab_ok fns fns_ok [.tmp 12, .tmp 13] Tryz.func22 rfl rfl rfl rfl ?_
  repeat' (first | (refine gJ ?_; first | refine js rfl rfl rfl rfl ?_ | (refine gcall rfl rfl ?_; first | (refine j_qc (f := 45) rfl rfl rfl rfl rfl rfl rfl ?_; refine ⟨_, (fun w' hs => hS w' (h2.st hs)), ?_⟩) | (refine j_qc (f := 46) rfl rfl rfl rfl rfl rfl rfl ?_; refine ⟨_, (fun w' _ => hT w'), ?_⟩)) | (refine j_qe rfl rfl rfl ?_; refine ⟨_, q_len_slice rfl rfl rfl rfl, ?_⟩)) | (refine gSC ?_; first | refine sc_mv rfl ?_ | refine sc_q rfl ?_ | refine sc_region ?_) | (refine gSQ ?_; refine sq_go rfl ?_) | refine j_nil ?_ | ((first | refine j_guard rfl rfl rfl rfl rfl ?_ ?_ | refine sc_cond rfl ?_ ?_) <;> intro hc <;> (first | exact absurd hc (by decide) | ((try simp only [engHC] at hc) <;> first | (exfalso; omega) | skip))))
  refine sc_own_nil_at 3 1 ?_
  refine sc_loop (ι := Nat × Value) (fun i => i.1 ≤ m) (fun i => m - i.1) (fun i => [(1, .int .u8 cl), (2, .int .i64 fr), (3, .int .i64 to), (4, .int .i64 now), (5, .int .i64 q9), (14, i.2), (33, .slice B m bc), (34, .int .i64 m), (35, .int .i64 i.1)]) (fun i => [.own i.2 3 1 (trL (s.take i.1) cl fr to now).length ((trL (s.take i.1) cl fr to now).flatMap intC)]) (0, .slice none 0 0) (Nat.zero_le _) (by (try dsimp only); exact (by repeat (first | exact FSub.nil | refine FSub.cons rfl ?_ | refine FSub.conse rfl (by congr 1; omega) ?_))) (by repeat (first | exact LSub.refl | refine LSub.cons (by repeat (first | exact Rem.here | apply Rem.there)) ?_ | apply LSub.skip)) ?_
  rintro ⟨i, v0⟩ hi
  dsimp only at hi ⊢
  by_cases hlt : i < m
  · obtain ⟨x, hx⟩ : ∃ x, s[i]? = some x := ⟨_, List.getElem?_eq_getElem (by omega)⟩
    obtain ⟨ad, rfl, hX⟩ := h2 i x hx
    have hxok := hsok x (List.mem_of_getElem? hx)
    unfold okSn at hxok
    have e1 := hsn i x hx
    have hl1 : (trL (s.take i) cl fr to now).length ≤ 2000 := by have := hln i; have := htl i; omega
    have hD := fun w' => del_c x now w'
    have hdd : delB x now = true → x.de ≠ -1 := fun h9 => by unfold delB at h9; exact (of_decide_eq_true h9).1
    unfold trSel at e1
    clear hsn hln hall htl hS hT hsok
    by_cases hq3 : x.cl = cl ∧ x.fr = fr ∧ x.to = to
    · rw [decide_eq_true hq3, Bool.true_and] at e1
      cases hdb : delB x now
      · rw [hdb] at e1 hD
        rw [if_neg (by decide), List.append_nil] at e1
        repeat' (first | (refine gJ ?_; first | refine js rfl rfl rfl rfl ?_ | (refine gload rfl rfl ?_; refine j_qe rfl rfl rfl ?_; first | refine ⟨_, q_load_own rfl rfl rfl rfl (by (repeat constructor)) (by first | rfl | assumption), ?_⟩ | refine ⟨_, q_loadA_own rfl rfl rfl rfl (by (repeat constructor)) (by rfl), ?_⟩ | refine ⟨_, q_loadA_ext rfl rfl rfl rfl ⟨by assumption, (by first | exact id | assumption)⟩ (by rfl), ?_⟩) | refine jfield rfl rfl rfl rfl rfl rfl rfl rfl ?_ | refine jar rfl rfl rfl rfl rfl rfl rfl (by omega) ?_ | (refine gcall rfl rfl ?_; (refine j_qc (f := 48) rfl rfl rfl rfl rfl rfl rfl ?_; refine ⟨_, (fun w' _ => hD w'), ?_⟩)) | (refine gF ?_; first | refine j_store rfl rfl rfl rfl rfl rfl rfl rfl (by (repeat constructor)) (by rfl) ?_ | (refine j_alloc rfl rfl rfl rfl rfl ?_; intro b)) | (refine j_qe rfl rfl rfl ?_; refine ⟨_, q_index_nat rfl rfl rfl rfl rfl (by omega), ?_⟩)) | (refine gSC ?_; first | refine sc_mv rfl ?_ | refine sc_q rfl ?_ | refine sc_region ?_) | (refine gSQ ?_; first | refine sq_go rfl ?_ | refine sq_mv rfl ?_) | refine j_nil ?_ | ((first | refine j_guard rfl rfl rfl rfl rfl ?_ ?_ | refine sc_cond rfl ?_ ?_) <;> intro hc <;> (first | exact absurd hc (by decide) | ((try simp only [engHC] at hc) <;> first | (exfalso; omega) | skip))))
        exact sq_loop (i + 1, v0) (by show i + 1 ≤ m; omega) (by show m - (i + 1) < m - i; omega) (by (try dsimp only); exact (by repeat (first | exact FSub.nil | refine FSub.cons rfl ?_ | refine FSub.conse rfl (by congr 1; omega) ?_))) (by dsimp only; rw [e1]; exact (by repeat (first | exact LSub.refl | refine LSub.cons (by repeat (first | exact Rem.here | apply Rem.there)) ?_ | apply LSub.skip)))
      · have hde := hdd hdb
        rw [hdb] at e1 hD
        rw [if_pos rfl] at e1
        repeat' (first | (refine gJ ?_; first | refine js rfl rfl rfl rfl ?_ | (refine gload rfl rfl ?_; refine j_qe rfl rfl rfl ?_; first | refine ⟨_, q_load_own rfl rfl rfl rfl (by (repeat constructor)) (by first | rfl | assumption), ?_⟩ | refine ⟨_, q_loadA_own rfl rfl rfl rfl (by (repeat constructor)) (by rfl), ?_⟩ | refine ⟨_, q_loadA_ext rfl rfl rfl rfl ⟨by assumption, (by first | exact id | assumption)⟩ (by rfl), ?_⟩) | refine jfield rfl rfl rfl rfl rfl rfl rfl rfl ?_ | refine jar rfl rfl rfl rfl rfl rfl rfl (by omega) ?_ | (refine gcall rfl rfl ?_; (refine j_qc (f := 48) rfl rfl rfl rfl rfl rfl rfl ?_; refine ⟨_, (fun w' _ => hD w'), ?_⟩)) | (refine gF ?_; first | refine j_store rfl rfl rfl rfl rfl rfl rfl rfl (by (repeat constructor)) (by rfl) ?_ | (refine j_alloc rfl rfl rfl rfl rfl ?_; intro b) | (refine j_buildSlice rfl rfl rfl rfl rfl rfl rfl rfl rfl rfl rfl rfl ?_; intro b) | (refine j_append rfl rfl rfl rfl rfl rfl rfl rfl rfl rfl rfl (by (repeat constructor)) (by (repeat constructor)) (by rfl) (by rfl) (by omega) (fun _ => by (repeat constructor)) ?_; intro v)) | (refine j_qe rfl rfl rfl ?_; refine ⟨_, q_index_nat rfl rfl rfl rfl rfl (by omega), ?_⟩)) | (refine gSC ?_; first | refine sc_mv rfl ?_ | refine sc_q rfl ?_ | refine sc_region ?_) | (refine gSQ ?_; first | refine sq_go rfl ?_ | refine sq_mv rfl ?_) | refine j_nil ?_ | ((first | refine j_guard rfl rfl rfl rfl rfl ?_ ?_ | refine sc_cond rfl ?_ ?_) <;> intro hc <;> (first | exact absurd hc (by decide) | ((try simp only [engHC] at hc) <;> first | (exfalso; omega) | skip))))
        refine sq_loop (i + 1, v) (by show i + 1 ≤ m; omega) (by show m - (i + 1) < m - i; omega) (by (try dsimp only); exact (by repeat (first | exact FSub.nil | refine FSub.cons rfl ?_ | refine FSub.conse rfl (by congr 1; omega) ?_))) ?_
        dsimp only
        rw [e1, List.length_append, List.flatMap_append]
        exact (by repeat (first | exact LSub.refl | refine LSub.cons (by repeat (first | exact Rem.here | apply Rem.there)) ?_ | apply LSub.skip))
    · rw [decide_eq_false hq3, Bool.false_and, if_neg (by decide), List.append_nil] at e1
      repeat' (first | (refine gJ ?_; first | refine js rfl rfl rfl rfl ?_ | (refine gload rfl rfl ?_; refine j_qe rfl rfl rfl ?_; first | refine ⟨_, q_load_own rfl rfl rfl rfl (by (repeat constructor)) (by first | rfl | assumption), ?_⟩ | refine ⟨_, q_loadA_ext rfl rfl rfl rfl ⟨by assumption, (by first | exact id | assumption)⟩ (by rfl), ?_⟩) | refine jfield rfl rfl rfl rfl rfl rfl rfl rfl ?_ | refine jar rfl rfl rfl rfl rfl rfl rfl (by omega) ?_ | (refine gF ?_; first | refine j_store rfl rfl rfl rfl rfl rfl rfl rfl (by (repeat constructor)) (by rfl) ?_ | (refine j_alloc rfl rfl rfl rfl rfl ?_; intro b)) | (refine j_qe rfl rfl rfl ?_; refine ⟨_, q_index_nat rfl rfl rfl rfl rfl (by omega), ?_⟩)) | (refine gSC ?_; first | refine sc_mv rfl ?_ | refine sc_q rfl ?_ | refine sc_region ?_) | (refine gSQ ?_; first | refine sq_go rfl ?_ | refine sq_mv rfl ?_) | refine j_nil ?_ | ((first | refine j_guard rfl rfl rfl rfl rfl ?_ ?_ | refine sc_cond rfl ?_ ?_) <;> intro hc <;> (first | exact absurd hc (by decide) | ((try simp only [engHC] at hc) <;> first | (exfalso; omega) | skip))))
      all_goals exact sq_loop (i + 1, v0) (by show i + 1 ≤ m; omega) (by show m - (i + 1) < m - i; omega) (by (try dsimp only); exact (by repeat (first | exact FSub.nil | refine FSub.cons rfl ?_ | refine FSub.conse rfl (by congr 1; omega) ?_))) (by dsimp only; rw [e1]; exact (by repeat (first | exact LSub.refl | refine LSub.cons (by repeat (first | exact Rem.here | apply Rem.there)) ?_ | apply LSub.skip)))
  · have him : i = m := by omega
    subst him
    have hl1 : (trL s cl fr to now).length ≤ 2000 := by have := hln i; rw [hall] at this; omega
    rw [hall]
    generalize trL s cl fr to now = T at *
    refine sc_owns (v := v0) (by (repeat constructor)) ?_
    rintro A0 c0 rfl hs0
    by_cases hT0 : T.length = 0
    · rw [if_pos hT0] at hres
      rw [hres]
      repeat' (first | (refine gJ ?_; first | refine js rfl rfl rfl rfl ?_ | (refine j_qe rfl rfl rfl ?_; refine ⟨_, q_len_slice rfl rfl rfl rfl, ?_⟩)) | (refine gSC ?_; first | refine sc_mv rfl ?_ | refine sc_q rfl ?_ | refine sc_region ?_) | (refine gSQ ?_; first | refine sq_go rfl ?_ | refine sq_mv rfl ?_ | refine sq_ende (by first | exact .inl rfl | exact .inr rfl) rfl rfl ⟨_, (RVs.cons (RV.tmp rfl) (RVs.cons (RV.tmp rfl) (RVs.nil))), ?_⟩) | refine j_nil ?_ | ((refine sc_cond rfl ?_ ?_) <;> intro hc <;> (((try simp only [engHC] at hc) <;> first | (exfalso; omega) | skip))))
      (intro w' hS; refine ⟨?_, hS.below⟩; simp only [pack])
    · rw [if_neg hT0] at hres
      rw [hres]
      have hqc := fun w' h => quant_c A0 c0 T q9 w' (by omega) (by omega) (by omega) h
      repeat' (first | (refine gJ ?_; first | refine js rfl rfl rfl rfl ?_ | (refine gcall rfl rfl ?_; (refine j_qc (f := 49) rfl rfl rfl rfl rfl rfl rfl ?_; refine ⟨_, (fun w' hs => hqc w' ⟨rs_own (f := intC) (fun _ => rfl) hs (by (repeat constructor)) rfl rfl, fun h9 => ⟨List.length_eq_zero_iff.1 (hs0.nil h9).1, (hs0.nil h9).2⟩⟩), ?_⟩)) | (refine j_qe rfl rfl rfl ?_; refine ⟨_, q_len_slice rfl rfl rfl rfl, ?_⟩)) | (refine gSC ?_; first | refine sc_mv rfl ?_ | refine sc_q rfl ?_ | refine sc_region ?_) | (refine gSQ ?_; first | refine sq_go rfl ?_ | refine sq_mv rfl ?_ | refine sq_ende (by first | exact .inl rfl | exact .inr rfl) rfl rfl ⟨_, (RVs.cons (RV.tmp rfl) (RVs.cons (RV.tmp rfl) (RVs.nil))), ?_⟩) | refine j_nil ?_ | ((refine sc_cond rfl ?_ ?_) <;> intro hc <;> (((try simp only [engHC] at hc) <;> first | (exfalso; omega) | skip))))
      (intro w' hS; refine ⟨?_, hS.below⟩; simp only [pack])
theorem Transit_c (B : Option Addr) (bc : Nat) (s : List Sn) (cl fr to now q : Int) (w : World) (hsl : s.length ≤ 9223372036854775807) (h2 : RS w 6 snC B s) :
    Calls Tryz.prog 22 #[.slice B s.length bc, .int .u8 cl, .int .i64 fr, .int .i64 to, .int .i64 now, .int .i64 q] w fun e w' => e = .returned (.tuple #[.int .i64 (trF s cl fr to now q).1, .int .i64 (trF s cl fr to now q).2]) ∧ Below w.heap.size w w' := by
  by_cases hok : trOk s now q
  · exact Transit_ok B bc s cl fr to now q w h2 hok
  · exact Transit_bad B bc s cl fr to now q w hsl h2 hok
end Go.Proofs.YtmakokbpadmfbaaGreat

/-
  The examples of the chapter.
-/
namespace Go.Proofs.YtmakokbpadmfbaaGreat
open Go.RowKit Eng
set_option linter.unusedVariables false
set_option linter.unusedSimpArgs false
set_option maxHeartbeats 8000000
attribute [local irreducible] SC SQ J Qt Calls Iterates LSub FSub
theorem rw_eq (a b : Rw) : a = b ↔ a.cl = b.cl ∧ a.fr = b.fr ∧ a.to = b.to ∧ a.tr = b.tr ∧ a.kp = b.kp ∧ a.op = b.op ∧ a.ot = b.ot ∧ a.le = b.le ∧ a.gr = b.gr := by
  cases a; cases b; simp
theorem eqm35 : Tryz.prog.eqGuardType Tryz.prog.depth 35 = false := by kernel_rfl
theorem eq35 (a b : Rw) (w : World) : (Op.equalIn 10000 35 (rwV a) (rwV b)).run Tryz.prog w = .ok (decide (a = b)) w := by
  have u3 := Tryz.underlying3
  have a3 := Tryz.isAgg3
  have z3 := Tryz.sizeOf3
  have u5 := Tryz.underlying5
  have a5 := Tryz.isAgg5
  have z5 := Tryz.sizeOf5
  rw [run_equalIn_agg w 9999 35 _ _ (by kernel_rfl) (by kernel_rfl)]
  simp only [Program.fieldsOf, Tryz.underlying35]
  go_simp
  have e : decide (a = b) = decide (a.cl = b.cl ∧ a.fr = b.fr ∧ a.to = b.to ∧ a.tr = b.tr ∧ a.kp = b.kp ∧ a.op = b.op ∧ a.ot = b.ot ∧ a.le = b.le ∧ a.gr = b.gr) := decide_eq_decide.2 (rw_eq a b)
  rw [e]
  by_cases h1 : a.cl = b.cl
  · by_cases h2 : a.fr = b.fr
    · by_cases h3 : a.to = b.to
      · by_cases h4 : a.tr = b.tr
        · by_cases h5 : a.kp = b.kp
          · by_cases h6 : a.op = b.op
            · by_cases h7 : a.ot = b.ot
              · by_cases h8 : a.le = b.le <;> by_cases h9 : a.gr = b.gr <;> simp [h1, h2, h3, h4, h5, h6, h7, h8, h9]
              · simp [h1, h2, h3, h4, h5, h6, h7]
            · simp [h1, h2, h3, h4, h5, h6]
          · simp [h1, h2, h3, h4, h5]
        · simp [h1, h2, h3, h4]
      · simp [h1, h2, h3]
    · simp [h1, h2]
  · simp [h1]
theorem low_is {n k r L : Nat} (h1 : L = 0 ∨ posB n k r (L - 1) = false) (h2 : posB n k r L = true) (hL : L ≤ 10000) : lowF n k r = L := by
  refine lowest_eq (fun p hp => ?_) (fun _ => h2) hL
  rcases h1 with h | h
  · omega
  · cases hpp : posB n k r p with
    | false => rfl
    | true =>
      have := posB_mono n k r p (L - 1) (by omega) (by omega) hpp
      rw [h] at this
      cases this
theorem lowA : lowF 10 10 500 = 7412 := low_is (.inr (by decide +kernel)) (by decide +kernel) (by decide)
theorem lowB : lowF 10 0 500 = 0 := low_is (.inl rfl) (by decide +kernel) (by decide)
theorem ms_one {of : Sn → Lane} {l : List Sd} {s : List Sn} {now risk : Int} {k : Lane} {r : Rw} (h1 : msOk l s now risk) (h2 : lanesO of s = [k]) (h3 : rowAt of (fun x => outF l x now) s k = r) (h4 : r.tr ≤ 500) : msF of l s now risk = (0, [bndR r risk]) := by
  have hs : sortL (lanesO of s) = [k] := by rw [h2]; exact List.perm_singleton.1 (sortL_perm [k])
  unfold msF msLong msRows
  rw [if_pos h1, hs]
  simp only [List.any_cons, List.any_nil, Bool.or_false, List.map_cons, List.map_nil, h3]
  rw [if_neg (by simp; omega)]
def sentN (d : Int) (n : Nat) : List Sn := (List.range n).map fun j : Nat => sentF (1 + (j : Int)) d
theorem sentN_succ (d : Int) (n : Nat) : sentN d (n + 1) = sentN d n ++ [sentF (1 + (n : Int)) d] := by
  unfold sentN
  rw [List.range_succ, List.map_append]
  rfl
theorem sentN_len (d : Int) (n : Nat) : (sentN d n).length = n := by simp [sentN]
theorem keptM : msF ofM std1 (sentN 2000 10) 3000 500 = (0, [⟨1, 2, 3, 10, 10, 0, 0, 7412, 10000⟩]) := by
  rw [ms_one (k := ⟨1, 2, 3⟩) (r := ⟨1, 2, 3, 10, 10, 0, 0, 0, 0⟩) (by decide +kernel) (by decide +kernel) (by decide +kernel) (by decide)]
  have h1 : lowF (10 : Int).toNat (10 : Int).toNat (500 : Int).toNat = 7412 := lowA
  have h2 : lowF (10 : Int).toNat ((10 : Int).toNat - (10 : Int).toNat) (500 : Int).toNat = 0 := lowB
  unfold bndR
  simp only [h1, h2]
  rfl
theorem lateM : msF ofM std1 (sentN (-1) 10) 3000 500 = (0, [⟨1, 2, 3, 10, 0, 0, 0, 0, 2588⟩]) := by
  rw [ms_one (k := ⟨1, 2, 3⟩) (r := ⟨1, 2, 3, 10, 0, 0, 0, 0, 0⟩) (by decide +kernel) (by decide +kernel) (by decide +kernel) (by decide)]
  have h1 : lowF (10 : Int).toNat (0 : Int).toNat (500 : Int).toNat = 0 := lowB
  have h2 : lowF (10 : Int).toNat ((10 : Int).toNat - (0 : Int).toNat) (500 : Int).toNat = 7412 := lowA
  unfold bndR
  simp only [h1, h2]
  rfl
theorem trE : trF [sentF 1 600, sentF 2 800, sentF 3 2500] 1 2 3 3000 5000 = (300, 0) := by
  unfold trF
  rw [if_pos (by decide +kernel)]
  have hL : trL [sentF 1 600, sentF 2 800, sentF 3 2500] 1 2 3 3000 = [100, 300, 2000] := by decide +kernel
  rw [hL]
  have hsrt : sortI [100, 300, 2000] = [100, 300, 2000] := by unfold sortI; exact List.mergeSort_of_pairwise (by decide)
  rw [hsrt]
  rfl
structure Cs where
  x : Sn
  now : Int
  want : Int
abbrev csC (c : Cs) : List Value := snC c.x ++ [.int .i64 c.now, .int .u8 c.want]
def cases5 : List Cs := [⟨sentF 1 2879, 2878, 1⟩, ⟨sentF 1 2879, 2879, 2⟩, ⟨sentF 1 (-1), 2879, 1⟩, ⟨sentF 1 (-1), 2880, 3⟩, ⟨⟨1, 1, 3, 2, 500, 2879⟩, 2879, 4⟩]
theorem cases_ok : ∀ (i : Nat) (c : Cs), cases5[i]? = some c → judF std1 c.x c.now = (c.want, 0) := by
  have key : cases5.all (fun c => decide (judF std1 c.x c.now = (c.want, 0))) = true := by decide +kernel
  intro i c hc
  exact of_decide_eq_true (List.all_eq_true.1 key c (List.mem_of_getElem? hc))
theorem eq35r (a : Rw) (w : World) : (Op.equalIn 10000 35 (rwV a) (rwV a)).run Tryz.prog w = .ok true w := by rw [eq35, decide_eq_true rfl]
def rwK : Rw := ⟨1, 2, 3, 10, 10, 0, 0, 7412, 10000⟩
def rwL : Rw := ⟨1, 2, 3, 10, 0, 0, 0, 0, 2588⟩
theorem ver1 : verF rwK 7412 = (1, 0) := by decide
theorem ver2 : verF rwK 7413 = (3, 0) := by decide
theorem ver3 : verF rwL 2589 = (2, 0) := by decide
set_option maxRecDepth 4000 in
set_option maxHeartbeats 8000000 in
theorem awake_c (w : World) : Calls Tryz.prog 13 #[] w fun e w' => e = .returned (.bool true) ∧ Below w.heap.size w w' := by
  have hJ := fun (i : Nat) (x : Cs) (hx : cases5[i]? = some x) A w' h' => cases_ok i x hx ▸ Judge_c A 1 std1 x.x x.now w' (by simp [std1]) (by
    have key : cases5.all (fun c => decide (0 ≤ c.x.ac ∧ c.x.ac ≤ 1000000)) = true := by decide +kernel
    have := of_decide_eq_true (List.all_eq_true.1 key x (List.mem_of_getElem? hx))
    omega) h'
  have hk := fun A B bc w' h h2 => keptM ▸ Measure_c A 1 std1 B bc (sentN 2000 10) 3000 500 w' (by simp [std1]) (by rw [sentN_len]; omega) h h2
  have hl := fun A B bc w' h h2 => lateM ▸ Measure_c A 1 std1 B bc (sentN (-1) 10) 3000 500 w' (by simp [std1]) (by rw [sentN_len]; omega) h h2
  have ht := fun b w' h => trE ▸ Transit_c (some ⟨b, 0, none⟩) 3 [sentF 1 600, sentF 2 800, sentF 3 2500] 1 2 3 3000 5000 w' (by simp) h
  refine eng_start (n := 163) (args := []) tab tab_ok fns fns_ok [.tmp 0] Tryz.func13 rfl rfl rfl rfl ?_
  repeat' (first | (refine gJ ?_; first | refine js rfl rfl rfl rfl ?_ | (refine gload rfl rfl ?_; refine j_qe rfl rfl rfl ?_; refine ⟨_, q_loadA_own rfl rfl rfl rfl (by (repeat constructor)) (by rfl), ?_⟩) | refine jfield rfl rfl rfl rfl rfl rfl rfl rfl ?_ | (refine gcall rfl rfl ?_; (refine j_qc (f := 33) rfl rfl rfl rfl rfl rfl rfl ?_; refine ⟨_, (fun w' _ => sent_c _ _ w'), ?_⟩)) | (refine gF ?_; first | refine j_store rfl rfl rfl rfl rfl rfl rfl rfl (by (repeat constructor)) (by rfl) ?_ | (refine j_alloc rfl rfl rfl rfl rfl ?_; intro b) | (refine j_buildSlice rfl rfl rfl rfl rfl rfl rfl rfl rfl rfl rfl rfl ?_; intro b)) | (refine j_qe rfl rfl rfl ?_; first | refine ⟨_, q_len_slice rfl rfl rfl rfl, ?_⟩ | refine ⟨_, q_build_struct rfl rfl rfl rfl rfl, ?_⟩)) | (refine gSC ?_; first | refine sc_mv rfl ?_ | refine sc_region ?_ | refine sc_auto 3 (.q 0 (.q 1 (.q 2 (.q 3 (.q 4 (.q 5 (.q 6 (.q 7 (.q 8 (.q 9 (.q 12 (.e 10 (.q 11 (.z)))))))))))))) mixed ?_) | (refine gJG ?_; first | refine jg_q rfl (by kernel_rfl) ?_ | refine jg_e (by kernel_rfl) rfl ?_ | refine jg_done (by kernel_rfl) ?_) | (refine gSQ ?_; first | refine jg_next ?_ | (refine gFE ?_; refine jg_next1 ?_) | refine sq_go rfl ?_) | refine j_nil ?_)
  refine sc_lit 8 (n := 5) (by (repeat constructor)) rfl (by omega) ?_
  revert b; intro b5
  refine sc_loop (ι := Nat) (fun i => i ≤ 5) (fun i => 5 - i) (fun i => [(32, .slice (some ⟨b5, 0, none⟩) 5 5), (33, .int .i64 5), (34, .int .i64 i)]) (fun _ => [.own (.slice (some ⟨b5, 0, none⟩) 5 5) 70 8 5 (cases5.flatMap csC)]) 0 (Nat.zero_le _) (by (try dsimp only); exact (by repeat (first | exact FSub.nil | refine FSub.cons rfl ?_ | refine FSub.conse rfl (by congr 1; omega) ?_))) (by repeat (first | exact LSub.refl | refine LSub.cons (by repeat (first | exact Rem.here | apply Rem.there)) ?_ | apply LSub.skip)) ?_
  rintro i hi
  dsimp only at hi ⊢
  by_cases hlt : i < 5
  · obtain ⟨x, hx⟩ : ∃ x, cases5[i]? = some x := ⟨_, List.getElem?_eq_getElem (by simpa [cases5] using hlt)⟩
    have hJx := fun A w' h' => hJ i x hx A w' h'
    repeat' (first | (refine gJ ?_; first | refine js rfl rfl rfl rfl ?_ | (refine gload rfl rfl ?_; refine j_qe rfl rfl rfl ?_; first | refine ⟨_, q_load_own rfl rfl rfl rfl (by (repeat constructor)) (by first | rfl | assumption), ?_⟩ | refine ⟨_, q_loadA_own rfl rfl rfl rfl (by (repeat constructor)) (by rfl), ?_⟩) | refine jfield rfl rfl rfl rfl rfl rfl rfl rfl ?_ | refine jar rfl rfl rfl rfl rfl rfl rfl (by omega) ?_ | (refine gcall rfl rfl ?_; (refine j_qc (f := 21) rfl rfl rfl rfl rfl rfl rfl ?_; refine ⟨_, (fun w' hs => hJx (some ⟨bs, 0, none⟩) w' (rs_own (f := sdC) (fun _ => rfl) hs (by (repeat constructor)) rfl rfl)), ?_⟩)) | (refine gcall rfl rfl ?_; refine gF ?_; refine j_callN (f := 34) rfl rfl rfl rfl rfl rfl rfl (fun b : Nat => .slice (some ⟨b, 0, none⟩) 1 1) (fun _ => True) (fun b => [.own (.slice (some ⟨b, 0, none⟩) 1 1) 43 4 1 (std1.flatMap sdC)]) (fun w' _ => standard_c w') (fun _ => trivial) ?_; rintro bs _) | (refine j_qe rfl rfl rfl ?_; refine ⟨_, q_index_at i rfl rfl rfl rfl rfl (by omega), ?_⟩) | (refine j_qe rfl rfl rfl ?_; refine ⟨_, q_rowA (f := csC) (i := i) rfl rfl rfl rfl (by (repeat constructor)) (fun _ => rfl) hx rfl, ?_⟩) | (refine gF ?_; first | refine j_store rfl rfl rfl rfl rfl rfl rfl rfl (by (repeat constructor)) (by rfl) ?_ | (refine j_alloc rfl rfl rfl rfl rfl ?_; intro b))) | (refine gSC ?_; first | refine sc_mv rfl ?_ | refine sc_q rfl ?_ | refine sc_region ?_ | refine sc_auto 6 (.q 1 (.q 2 (.q 3 (.q 4 (.e 0 (.e 5 (.q 6 (.q 7 (.q 8 (.q 9 (.q 10 (.z)))))))))))) mixed ?_) | (refine gJG ?_; first | refine jg_q rfl (by kernel_rfl) ?_ | refine jg_e (by kernel_rfl) rfl ?_ | refine jg_done (by kernel_rfl) ?_) | (refine gSQ ?_; first | refine jg_next ?_ | (refine gFE ?_; first | refine jg_next0 ?_ | refine jg_next1 ?_) | refine sq_go rfl ?_ | refine sq_mv rfl ?_) | refine j_nil ?_ | ((first | refine j_guard rfl rfl rfl rfl rfl ?_ ?_ | refine sc_cond rfl ?_ ?_) <;> intro hc <;> (first | exact absurd hc (by decide) | ((try simp only [engHC] at hc) <;> first | (exfalso; omega) | exact absurd trivial hc | skip))))
    exact sq_loop (i + 1) (by show i + 1 ≤ 5; omega) (by show 5 - (i + 1) < 5 - i; omega) (by (try dsimp only); exact (by repeat (first | exact FSub.nil | refine FSub.cons rfl ?_ | refine FSub.conse rfl (by congr 1; omega) ?_))) (by repeat (first | exact LSub.refl | refine LSub.cons (by repeat (first | exact Rem.here | apply Rem.there)) ?_ | apply LSub.skip))
  · repeat' (first | (refine gJ ?_; refine js rfl rfl rfl rfl ?_) | (refine gSC ?_; first | refine sc_mv rfl ?_ | refine sc_q rfl ?_ | refine sc_region ?_) | (refine gSQ ?_; first | refine sq_go rfl ?_ | refine sq_mv rfl ?_) | refine j_nil ?_ | ((refine sc_cond rfl ?_ ?_) <;> intro hc <;> (((try simp only [engHC] at hc) <;> first | (exfalso; omega) | skip))))
    refine sc_own_nil_at 45 6 ?_
    refine sc_own_nil_at 45 6 ?_
    refine sc_loop (ι := Nat × Value × Value) (fun i => i.1 ≤ 10) (fun i => 10 - i.1) (fun i => [(6, i.2.1), (7, i.2.2), (8, .int .i64 (1 + (i.1 : Int)))]) (fun i => [.own i.2.1 45 6 i.1 ((sentN 2000 i.1).flatMap snC), .own i.2.2 45 6 i.1 ((sentN (-1) i.1).flatMap snC)]) (0, .slice none 0 0, .slice none 0 0) (Nat.zero_le _) (by (try dsimp only); exact (by repeat (first | exact FSub.nil | refine FSub.cons rfl ?_ | refine FSub.conse rfl (by congr 1; omega) ?_))) (by repeat (first | exact LSub.refl | refine LSub.cons (by repeat (first | exact Rem.here | apply Rem.there)) ?_ | apply LSub.skip)) ?_
    rintro ⟨j, v6, v7⟩ hj
    dsimp only at hj ⊢
    by_cases hlj : j < 10
    · have e1 := sentN_succ 2000 j
      have e2 := sentN_succ (-1) j
      repeat' (first | (refine gJ ?_; first | refine js rfl rfl rfl rfl ?_ | refine jar rfl rfl rfl rfl rfl rfl rfl (by omega) ?_ | (refine gcall rfl rfl ?_; (refine j_qc (f := 33) rfl rfl rfl rfl rfl rfl rfl ?_; refine ⟨_, (fun w' _ => sent_c _ _ w'), ?_⟩)) | (refine gF ?_; first | (refine j_buildSlice rfl rfl rfl rfl rfl rfl rfl rfl rfl rfl rfl rfl ?_; intro b) | (refine j_append rfl rfl rfl rfl rfl rfl rfl rfl rfl rfl rfl (by (repeat constructor)) (by (repeat constructor)) (by rfl) (by rfl) (by omega) (fun _ => by (repeat constructor)) ?_; intro v))) | (refine gSC ?_; first | refine sc_mv rfl ?_ | refine sc_q rfl ?_ | refine sc_region ?_) | (refine gSQ ?_; first | refine sq_go rfl ?_ | refine sq_mv rfl ?_) | refine j_nil ?_ | ((refine sc_cond rfl ?_ ?_) <;> intro hc <;> (((try simp only [engHC] at hc) <;> first | (exfalso; omega) | skip))))
      refine sq_loop (j + 1, _, _) (by show j + 1 ≤ 10; omega) (by show 10 - (j + 1) < 10 - j; omega) (by repeat (first | exact FSub.nil | refine FSub.cons rfl ?_ | refine FSub.conse rfl (by congr 1; push_cast; omega) ?_)) ?_
      dsimp only
      rw [e1, e2, List.flatMap_append, List.flatMap_append]
      exact (by repeat (first | exact LSub.refl | refine LSub.cons (by repeat (first | exact Rem.here | apply Rem.there)) ?_ | apply LSub.skip))
    · have hj10 : j = 10 := by omega
      subst hj10
      refine sc_owns (v := v6) (by (repeat constructor)) ?_
      rintro A6 c6 rfl hs6
      refine sc_owns (v := v7) (by (repeat constructor)) ?_
      rintro A7 c7 rfl hs7
      repeat' (first | (refine gJ ?_; first | refine js rfl rfl rfl rfl ?_ | refine jar rfl rfl rfl rfl rfl rfl rfl (by omega) ?_ | (refine gcall rfl rfl ?_; first | (refine j_qc (f := 33) rfl rfl rfl rfl rfl rfl rfl ?_; refine ⟨_, (fun w' _ => sent_c _ _ w'), ?_⟩) | (refine j_qc (f := 23) rfl rfl rfl rfl rfl rfl rfl ?_; refine ⟨_, (fun w' _ => ver1 ▸ Verdict_c rwK 7412 w'), ?_⟩) | (refine j_qc (f := 23) rfl rfl rfl rfl rfl rfl rfl ?_; refine ⟨_, (fun w' _ => ver2 ▸ Verdict_c rwK 7413 w'), ?_⟩) | (refine j_qc (f := 23) rfl rfl rfl rfl rfl rfl rfl ?_; refine ⟨_, (fun w' _ => ver3 ▸ Verdict_c rwL 2589 w'), ?_⟩) | (refine j_qc (f := 22) rfl rfl rfl rfl rfl rfl rfl ?_; refine ⟨_, (fun w' hs => ht b w' (rs_lit (f := snC) _ (fun _ => rfl) hs (by (repeat constructor)) rfl)), ?_⟩)) | (refine gcall rfl rfl ?_; refine gF ?_; refine j_callN (f := 34) rfl rfl rfl rfl rfl rfl rfl (fun b : Nat => .slice (some ⟨b, 0, none⟩) 1 1) (fun _ => True) (fun b => [.own (.slice (some ⟨b, 0, none⟩) 1 1) 43 4 1 (std1.flatMap sdC)]) (fun w' _ => standard_c w') (fun _ => trivial) ?_; rintro bs _) | (refine gcall rfl rfl ?_; refine gF ?_; refine j_callN (f := 17) rfl rfl rfl rfl rfl rfl rfl (fun v => .tuple #[v, .int .i64 0]) (fun _ => True) (fun v => [.own v 35 9 1 ([rwK].flatMap rwC)]) (fun w' hs => hk (some ⟨bs, 0, none⟩) A6 c6 w' (rs_own (f := sdC) (fun _ => rfl) hs (by (repeat constructor)) rfl rfl) (rs_own (f := snC) (l := sentN 2000 10) (fun _ => rfl) hs (by (repeat constructor)) rfl rfl)) (fun _ => trivial) ?_; rintro v9 _; refine j_ownp (v := v9) (by (repeat constructor)) (by omega) ?_; rintro a9 c9 rfl hs9) | (refine gcall rfl rfl ?_; refine gF ?_; refine j_callN (f := 17) rfl rfl rfl rfl rfl rfl rfl (fun v => .tuple #[v, .int .i64 0]) (fun _ => True) (fun v => [.own v 35 9 1 ([rwL].flatMap rwC)]) (fun w' hs => hl (some ⟨bs, 0, none⟩) A7 c7 w' (rs_own (f := sdC) (fun _ => rfl) hs (by (repeat constructor)) rfl rfl) (rs_own (f := snC) (l := sentN (-1) 10) (fun _ => rfl) hs (by (repeat constructor)) rfl rfl)) (fun _ => trivial) ?_; rintro v8 _; refine j_ownp (v := v8) (by (repeat constructor)) (by omega) ?_; rintro a8 c8 rfl hs8) | (refine j_qe rfl rfl rfl ?_; refine ⟨_, q_index_at 0 rfl rfl rfl rfl rfl (by omega), ?_⟩) | (refine j_qe rfl rfl rfl ?_; refine ⟨_, q_rowA (f := rwC) (l := [rwK]) (i := 0) rfl rfl rfl rfl (by (repeat constructor)) (fun _ => rfl) rfl rfl, ?_⟩) | (refine j_qe rfl rfl rfl ?_; refine ⟨_, q_rowA (f := rwC) (l := [rwL]) (i := 0) rfl rfl rfl rfl (by (repeat constructor)) (fun _ => rfl) rfl rfl, ?_⟩) | (refine j_qe rfl rfl rfl ?_; refine ⟨_, q_rowF (f := rwC) (l := [rwL]) (i := 0) (off := 8) rfl rfl rfl rfl (by (repeat constructor)) (fun _ => rfl) rfl rfl, ?_⟩) | (refine j_qe rfl rfl rfl ?_; refine ⟨_, q_neS rfl eqm35 rfl rfl (eq35r rwK), ?_⟩) | (refine gF ?_; (refine j_buildSlice rfl rfl rfl rfl rfl rfl rfl rfl rfl rfl rfl rfl ?_; intro b)) | (refine j_qe rfl rfl rfl ?_; first | refine ⟨_, q_len_slice rfl rfl rfl rfl, ?_⟩ | refine ⟨_, q_build_struct rfl rfl rfl rfl rfl, ?_⟩ | refine ⟨_, q_field_ext rfl rfl rfl rfl rfl, ?_⟩)) | (refine gSC ?_; first | refine sc_mv rfl ?_ | refine sc_q rfl ?_ | refine sc_region ?_) | (refine gSQ ?_; first | refine sq_go rfl ?_ | refine sq_mv rfl ?_ | refine sq_ende (by first | exact .inl rfl | exact .inr rfl) rfl rfl ⟨_, (RVs.cons (RV.tmp rfl) (RVs.nil)), ?_⟩) | refine j_nil ?_ | ((first | refine j_guard rfl rfl rfl rfl rfl ?_ ?_ | refine sc_cond rfl ?_ ?_) <;> intro hc <;> (first | exact absurd hc (by decide) | ((try simp only [engHC] at hc) <;> skip))))
      all_goals first | ((intro w' hS; refine ⟨?_, hS.below⟩; simp only [pack]); done) | ((intro w' hS; refine ⟨?_, hS.below⟩; simp only [pack]); exact rb (by simp))
end Go.Proofs.YtmakokbpadmfbaaGreat

/-
  ServiceLater.
-/
namespace Go.Proofs.YtmakokbpadmfbaaGreat
open Go.RowKit Eng
set_option linter.unusedVariables false
set_option linter.unusedSimpArgs false
set_option maxHeartbeats 8000000
attribute [local irreducible] SC SQ J Qt Calls Iterates LSub FSub
end Go.Proofs.YtmakokbpadmfbaaGreat

/-
  service, plain: the rows of items in closed form.
-/
namespace Go.Proofs.YtmakokbpadmfbaaGreat
open Go.RowKit Eng
set_option linter.unusedVariables false
set_option linter.unusedSimpArgs false
set_option maxHeartbeats 8000000
attribute [local irreducible] SC SQ J Qt Calls Iterates LSub FSub
theorem outF_range (l : List Sd) (x : Sn) (now : Int) : outF l x now = 1 ∨ outF l x now = 2 ∨ outF l x now = 3 ∨ outF l x now = 4 := by
  unfold outF
  (repeat' split) <;> simp
def nOf (of : Sn → Lane) (out : Sn → Int) (s : List Sn) (k : Lane) (o : Int) : Nat := s.countP fun x => decide (of x = k ∧ out x = o)
section
variable {of : Sn → Lane} {out : Sn → Int}
theorem sortL_memO {s : List Sn} {k : Lane} : k ∈ sortL (lanesO of s) ↔ ∃ x ∈ s, of x = k := by rw [(sortL_perm _).mem_iff, lanesO_mem]
end
/-! ### Right items -/
theorem snB_iff : ∀ (seen : List Int) (l : List Sn), snB seen l = true ↔ (∀ x ∈ l, okSn x) ∧ (l.map (·.it)).Nodup ∧ ∀ x ∈ l, x.it ∉ seen
  | seen, [] => by simp [snB]
  | seen, x :: l => by
    unfold snB
    rw [Bool.and_eq_true, Bool.and_eq_true, decide_eq_true_eq, snB_iff]
    simp only [List.mem_cons, List.mem_append, List.map_cons, List.nodup_cons, List.mem_map, Bool.not_eq_true', decide_eq_false_iff_not]
    constructor
    · rintro ⟨h1, h2, h3, h4, h5⟩
      refine ⟨fun y hy => ?_, ⟨fun ⟨y, hy, he⟩ => h5 y hy (.inr (.inl he)), h4⟩, fun y hy => ?_⟩
      · rcases hy with rfl | hy
        · exact h1
        · exact h3 y hy
      · rcases hy with rfl | hy
        · exact h2
        · exact fun h => h5 y hy (.inl h)
    · rintro ⟨h1, ⟨h2, h3⟩, h4⟩
      refine ⟨h1 x (.inl rfl), h4 x (.inl rfl), fun y hy => h1 y (.inr hy), h3, fun y hy h => ?_⟩
      rcases h with h | h | h
      · exact h4 y (.inr hy) h
      · exact h2 ⟨y, hy, h⟩
      · cases h
theorem sentB_iff (l : List Sn) : sentB l = true ↔ l.length ≤ 2000 ∧ (∀ x ∈ l, okSn x) ∧ (l.map (·.it)).Nodup := by
  unfold sentB
  rw [Bool.and_eq_true, decide_eq_true_eq, snB_iff]
  simp
/-- A row, with its bounds. -/
def rowF (of : Sn → Lane) (l : List Sd) (s : List Sn) (now risk : Int) (k : Lane) : Rw := bndR (rowAt of (fun x => outF l x now) s k) risk
theorem msRows_eq (of : Sn → Lane) (l : List Sd) (s : List Sn) (now risk : Int) : msRows of l s now risk = (sortL (lanesO of s)).map (rowF of l s now risk) := rfl
end Go.Proofs.YtmakokbpadmfbaaGreat

/-
  service, plain: the sums of the rows of pairs are the rows of classes.
-/
namespace Go.Proofs.YtmakokbpadmfbaaGreat
open Go.RowKit Eng
set_option linter.unusedVariables false
set_option linter.unusedSimpArgs false
set_option maxHeartbeats 8000000
attribute [local irreducible] SC SQ J Qt Calls Iterates LSub FSub
def sumI (cl : Int) (f : Rw → Int) (P : List Rw) : Int := (P.map fun p => if p.cl = cl then f p else 0).sum
def sumR (cl : Int) (P : List Rw) : Rw := ⟨cl, 0, 0, sumI cl (·.tr) P, sumI cl (·.kp) P, sumI cl (·.op) P, sumI cl (·.ot) P, 0, 0⟩
section
variable {l : List Sd} {s : List Sn} {now risk : Int}
def metN (C P : List Rw) : Nat := (C.map fun c => P.countP fun p => decide (p.cl = c.cl)).sum
end
end Go.Proofs.YtmakokbpadmfbaaGreat

/-
  ServiceSums.
-/
namespace Go.Proofs.YtmakokbpadmfbaaGreat
open Go.RowKit Eng
set_option linter.unusedVariables false
set_option linter.unusedSimpArgs false
set_option maxHeartbeats 8000000
attribute [local irreducible] SC SQ J Qt Calls Iterates LSub FSub
theorem rows_len {of : Sn → Lane} {l : List Sd} {s : List Sn} {now risk : Int} : (msRows of l s now risk).length ≤ s.length := by
  rw [msRows_eq, List.length_map, (sortL_perm _).length_eq]
  exact lanesO_len s
end Go.Proofs.YtmakokbpadmfbaaGreat

/-
  ServiceWrong, plain: what each defect makes wrong.
-/
namespace Go.Proofs.YtmakokbpadmfbaaGreat
open Go.RowKit Eng
set_option linter.unusedVariables false
set_option linter.unusedSimpArgs false
set_option maxHeartbeats 8000000
attribute [local irreducible] SC SQ J Qt Calls Iterates LSub FSub
/-- A case: what stands behind the switch. -/
structure Wd where
  l : List Sd
  x : Sn
  s : List Sn
  now : Int
  risk : Int
  q : Int
  J : Bool
  M : Bool
  T : Bool
structure Wd.Ok (d : Wd) : Prop where
  len : d.l.length = 4
  slen : d.s.length ≤ 21
  now : -9223372036854775808 ≤ d.now ∧ d.now ≤ 9223372036854775807
  ac : 0 ≤ d.x.ac ∧ d.x.ac ≤ 20000
  j : d.J = !decide (sdsB d.l = true ∧ sentB [d.x] = true ∧ timeI d.now)
  m : d.M = !decide (msOk d.l (d.x :: d.s) d.now d.risk)
  t : d.T = !decide (trOk (d.x :: d.s) d.now d.q)
def thZ : Th := ⟨0, 0, 0, false⟩
def snZ : Sn := ⟨1, 1, 1, 2, 0, -1⟩
def sdsW : List Sd := [⟨1, 1, 2, 1000⟩, ⟨1, 1, 2, 1000⟩, ⟨2, 1, 3, 4000⟩, ⟨2, 2, 3, 0⟩]
theorem msF_len (of : Sn → Lane) (l : List Sd) (s : List Sn) (now risk : Int) : (msF of l s now risk).2.length ≤ s.length := by
  unfold msF
  split
  · split
    · exact Nat.zero_le _
    · exact rows_len
  · exact Nat.zero_le _
end Go.Proofs.YtmakokbpadmfbaaGreat

/-
  ServiceSmall, plain: the limit of trials.
-/
namespace Go.Proofs.YtmakokbpadmfbaaGreat
open Go.RowKit Eng
set_option linter.unusedVariables false
set_option linter.unusedSimpArgs false
set_option maxHeartbeats 8000000
attribute [local irreducible] SC SQ J Qt Calls Iterates LSub FSub
theorem up_top (p q : Nat) : ∀ n, up p q n n = p ^ n
  | 0 => rfl
  | n + 1 => by
    show p * up p q n n + q * up p q n (n + 1) = p ^ (n + 1)
    rw [up_top p q n, up_zero p q n (n + 1) (by omega), Nat.mul_zero, Nat.add_zero, Nat.pow_succ, Nat.mul_comm]
def sE (n : Nat) : List Sn := sentN 600 n ++ [sentF ((n : Int) + 1) (-1)]
theorem sE_len (n : Nat) : (sE n).length = n + 1 := by unfold sE; rw [List.length_append, sentN_len]; rfl
theorem out_it (l : List Sd) (i d now : Int) : outF l (sentF i d) now = outF l (sentF 1 d) now := rfl
theorem outK (i : Int) : outF std1 (sentF i 600) 2000 = 2 := by rw [out_it]; decide +kernel
theorem outO (i : Int) : outF std1 (sentF i (-1)) 2000 = 1 := by rw [out_it]; decide +kernel
section
variable {of : Sn → Lane} {k : Lane} (hof : ∀ i d, of (sentF i d) = k)
include hof
theorem rowN (n : Nat) : rowAt of (fun x => outF std1 x 2000) (sentN 600 n) k = ⟨k.cl, k.fr, k.to, n, n, 0, 0, 0, 0⟩ := by
  induction n with
  | zero => rfl
  | succ n ih =>
    rw [sentN_succ, rowAt_snoc, if_pos (hof _ _), ih, outK]
    unfold cntR
    rw [if_neg (by decide), if_neg (by decide), if_pos rfl]
    simp only [Rw.mk.injEq, true_and, and_true]
    omega
theorem rowE (n : Nat) : rowAt of (fun x => outF std1 x 2000) (sE n) k = ⟨k.cl, k.fr, k.to, n, n, 1, 0, 0, 0⟩ := by
  unfold sE
  rw [rowAt_snoc, if_pos (hof _ _), rowN hof, outO]
  rfl
theorem laneN (d : Int) (n : Nat) : lanesO (of := of) (sentN d (n + 1)) = [k] := by
  induction n with
  | zero =>
    rw [sentN_succ, lanesO_snoc, hof]
    rfl
  | succ n ih =>
    rw [sentN_succ, lanesO_snoc, ih, hof]
    unfold lnAdd
    rw [if_pos (List.mem_singleton.2 rfl)]
theorem laneE (n : Nat) : lanesO (of := of) (sE (n + 1)) = [k] := by
  unfold sE
  rw [lanesO_snoc, laneN hof, hof]
  unfold lnAdd
  rw [if_pos (List.mem_singleton.2 rfl)]
end
theorem sE_its (n : Nat) : (sE n).map (·.it) = (List.range (n + 1)).map fun j : Nat => 1 + (j : Int) := by
  unfold sE sentN
  rw [List.map_append, List.map_map, List.range_succ, List.map_append]
  congr 1
  show [(n : Int) + 1] = [1 + (n : Int)]
  rw [Int.add_comm]
theorem its_nodup (n : Nat) : ((List.range n).map fun j : Nat => 1 + (j : Int)).Nodup := by
  unfold List.Nodup
  rw [List.pairwise_map]
  exact List.Pairwise.imp (fun {a c} h e => h (by omega)) (List.nodup_range (n := n))
theorem sE_ok {n : Nat} (h : n ≤ 600) : sentB (sE n) = true := by
  rw [sentB_iff]
  refine ⟨by rw [sE_len]; omega, fun x hx => ?_, ?_⟩
  · unfold sE at hx
    rcases List.mem_append.1 hx with hx | hx
    · unfold sentN at hx
      obtain ⟨j, hj, rfl⟩ := List.mem_map.1 hx
      have := List.mem_range.1 hj
      refine ⟨?_, ?_, ?_, ?_, ?_, ?_, ?_, ?_, ?_, fun _ => ⟨?_, ?_⟩⟩ <;> dsimp only [sentF] <;> omega
    · rw [List.mem_singleton] at hx
      subst hx
      refine ⟨?_, ?_, ?_, ?_, ?_, ?_, ?_, ?_, ?_, fun h => ?_⟩ <;> dsimp only [sentF] at * <;> omega
  · rw [sE_its]
    exact its_nodup (n + 1)
theorem low499 : lowF 499 499 500 = 9941 := low_is (.inr (by unfold posB excB; rw [up_top]; decide +kernel)) (by unfold posB excB; rw [up_top]; decide +kernel) (by decide)
theorem low500 : lowF 500 500 500 = 9941 := low_is (.inr (by unfold posB excB; rw [up_top]; decide +kernel)) (by unfold posB excB; rw [up_top]; decide +kernel) (by decide)
theorem low499z : lowF 499 0 500 = 0 := low_is (.inl rfl) (by unfold posB excB; rw [up_all]; decide +kernel) (by decide)
theorem low500z : lowF 500 0 500 = 0 := low_is (.inl rfl) (by unfold posB excB; rw [up_all]; decide +kernel) (by decide)
theorem std1_ok : sdsB std1 = true := by decide +kernel
theorem msE {of : Sn → Lane} {k : Lane} (hof : ∀ i d, of (sentF i d) = k) {n : Nat} (hn : n = 499 ∨ n = 500) : msF of std1 (sE n) 2000 500 = (0, [⟨k.cl, k.fr, k.to, n, n, 1, 0, 9941, 10000⟩]) := by
  have hok : msOk std1 (sE n) 2000 500 := ⟨std1_ok, sE_ok (by omega), ⟨by decide, by decide⟩, by decide, by decide⟩
  rcases hn with rfl | rfl
  · rw [ms_one hok (laneE hof 498) (rowE hof 499) (by dsimp only; decide)]
    have h1 : lowF (499 : Int).toNat (499 : Int).toNat (500 : Int).toNat = 9941 := low499
    have h2 : lowF (499 : Int).toNat ((499 : Int).toNat - (499 : Int).toNat) (500 : Int).toNat = 0 := low499z
    unfold bndR
    dsimp only
    rw [show (((499 : Nat) : Int)) = 499 from rfl, h1, h2]
    rfl
  · rw [ms_one hok (laneE hof 499) (rowE hof 500) (by dsimp only; decide)]
    have h1 : lowF (500 : Int).toNat (500 : Int).toNat (500 : Int).toNat = 9941 := low500
    have h2 : lowF (500 : Int).toNat ((500 : Int).toNat - (500 : Int).toNat) (500 : Int).toNat = 0 := low500z
    unfold bndR
    dsimp only
    rw [show (((500 : Nat) : Int)) = 500 from rfl, h1, h2]
    rfl
theorem msL {of : Sn → Lane} {k : Lane} (hof : ∀ i d, of (sentF i d) = k) : msF of std1 (sE 501) 2000 500 = (3, []) := by
  have hok : msOk std1 (sE 501) 2000 500 := ⟨std1_ok, sE_ok (by omega), ⟨by decide, by decide⟩, by decide, by decide⟩
  have hs : sortL (lanesO (of := of) (sE 501)) = [k] := by rw [laneE hof 500]; exact List.perm_singleton.1 (sortL_perm [k])
  unfold msF msLong
  rw [if_pos hok, hs]
  simp only [List.any_cons, List.any_nil, Bool.or_false, rowE hof]
  rfl
end Go.Proofs.YtmakokbpadmfbaaGreat

/-
  The limit of trials: ends.
-/
namespace Go.Proofs.YtmakokbpadmfbaaGreat
open Go.RowKit Eng
set_option linter.unusedVariables false
set_option linter.unusedSimpArgs false
set_option maxHeartbeats 8000000
attribute [local irreducible] SC SQ J Qt Calls Iterates LSub FSub
set_option maxRecDepth 8000 in
set_option maxHeartbeats 16000000 in
theorem ends_c (w : World) : Calls Tryz.prog 35 #[] w fun e w' => e = .returned (.bool true) ∧ Below w.heap.size w w' := by
  refine eng_start (n := 102) (args := []) tab tab_ok fns fns_ok [.tmp 0] Tryz.func35 rfl rfl rfl rfl ?_
  repeat' (first | (refine gJ ?_; refine js rfl rfl rfl rfl ?_) | (refine gSC ?_; first | refine sc_mv rfl ?_ | refine sc_region ?_) | (refine gSQ ?_; refine sq_go rfl ?_) | refine j_nil ?_)
  refine sc_loop (ι := Nat) (fun u => u ≤ 3) (fun u => 3 - u) (fun u => [(1, .int .i64 ((499 + u : Nat) : Int))]) (fun _ => []) 0 (Nat.zero_le _) (by (try dsimp only); exact (by repeat (first | exact FSub.nil | refine FSub.cons rfl ?_ | refine FSub.conse rfl (by congr 1; omega) ?_))) (by repeat (first | exact LSub.refl | refine LSub.cons (by repeat (first | exact Rem.here | apply Rem.there)) ?_ | apply LSub.skip)) ?_
  intro u hu
  dsimp only at hu ⊢
  by_cases hlt : u < 3
  · obtain ⟨n, hn⟩ : ∃ n, n = 499 + u := ⟨_, rfl⟩
    rw [← hn]
    repeat' (first | (refine gJ ?_; refine js rfl rfl rfl rfl ?_) | (refine gSC ?_; first | refine sc_mv rfl ?_ | refine sc_q rfl ?_ | refine sc_region ?_) | (refine gSQ ?_; refine sq_go rfl ?_) | refine j_nil ?_ | ((refine sc_cond rfl ?_ ?_) <;> intro hc <;> (((try simp only [engHC] at hc) <;> first | (exfalso; omega) | skip))))
    refine sc_own_nil_at 45 6 ?_
    refine sc_loop (ι := Nat × Value) (fun i => i.1 ≤ n) (fun i => n - i.1) (fun i => [(1, .int .i64 n), (2, i.2), (3, .int .i64 (1 + (i.1 : Int)))]) (fun i => [.own i.2 45 6 i.1 ((sentN 600 i.1).flatMap snC)]) (0, .slice none 0 0) (Nat.zero_le _) (by (try dsimp only); exact (by repeat (first | exact FSub.nil | refine FSub.cons rfl ?_ | refine FSub.conse rfl (by congr 1; omega) ?_))) (by repeat (first | exact LSub.refl | refine LSub.cons (by repeat (first | exact Rem.here | apply Rem.there)) ?_ | apply LSub.skip)) ?_
    rintro ⟨j, v6⟩ hj
    dsimp only at hj ⊢
    by_cases hlj : j < n
    · have e1 := sentN_succ 600 j
      repeat' (first | (refine gJ ?_; first | refine js rfl rfl rfl rfl ?_ | refine jar rfl rfl rfl rfl rfl rfl rfl (by omega) ?_ | (refine gcall rfl rfl ?_; (refine j_qc (f := 33) rfl rfl rfl rfl rfl rfl rfl ?_; refine ⟨_, (fun w' _ => sent_c _ _ w'), ?_⟩)) | (refine gF ?_; first | (refine j_buildSlice rfl rfl rfl rfl rfl rfl rfl rfl rfl rfl rfl rfl ?_; intro b) | (refine j_append rfl rfl rfl rfl rfl rfl rfl rfl rfl rfl rfl (by (repeat constructor)) (by (repeat constructor)) (by rfl) (by rfl) (by omega) (fun _ => by (repeat constructor)) ?_; intro v))) | (refine gSC ?_; first | refine sc_mv rfl ?_ | refine sc_q rfl ?_ | refine sc_region ?_) | (refine gSQ ?_; first | refine sq_go rfl ?_ | refine sq_mv rfl ?_) | refine j_nil ?_ | ((refine sc_cond rfl ?_ ?_) <;> intro hc <;> (((try simp only [engHC] at hc) <;> first | (exfalso; omega) | skip))))
      refine sq_loop (j + 1, _) (by show j + 1 ≤ n; omega) (by show n - (j + 1) < n - j; omega) (by repeat (first | exact FSub.nil | refine FSub.cons rfl ?_ | refine FSub.conse rfl (by congr 1; push_cast; omega) ?_)) ?_
      dsimp only
      rw [e1, List.flatMap_append]
      exact (by repeat (first | exact LSub.refl | refine LSub.cons (by repeat (first | exact Rem.here | apply Rem.there)) ?_ | apply LSub.skip))
    · obtain rfl : j = n := by omega
      have hM := fun A B bc w' h h2 => Measure_c A 1 std1 B bc (sE j) 2000 500 w' (by simp [std1]) (by rw [sE_len]; omega) h h2
      have hC := fun A B bc w' h h2 => Classes_c A 1 std1 B bc (sE j) 2000 500 w' (by simp [std1]) (by rw [sE_len]; omega) h h2
      rw [sE_len] at hM hC
      have hcs : (sE j).flatMap snC = (sentN 600 j).flatMap snC ++ snC (sentF ((j : Int) + 1) (-1)) := by unfold sE; rw [List.flatMap_append]; simp
      have hsl := sE_len j
      by_cases h5 : j = 501
      · have hL1 : msF ofM std1 (sE j) 2000 500 = (3, []) := by rw [h5]; exact msL (k := ⟨1, 2, 3⟩) (fun _ _ => rfl)
        have hL2 : msF ofC std1 (sE j) 2000 500 = (3, []) := by rw [h5]; exact msL (k := ⟨1, 0, 0⟩) (fun _ _ => rfl)
        rw [hL1] at hM
        rw [hL2] at hC
        dsimp only at hM hC
        repeat' (first | (refine gJ ?_; first | refine js rfl rfl rfl rfl ?_ | refine jar rfl rfl rfl rfl rfl rfl rfl (by omega) ?_ | (refine gcall rfl rfl ?_; (refine j_qc (f := 33) rfl rfl rfl rfl rfl rfl rfl ?_; refine ⟨_, (fun w' _ => sent_c _ _ w'), ?_⟩)) | (refine gF ?_; refine j_append rfl rfl rfl rfl rfl rfl rfl rfl rfl rfl rfl (by (repeat constructor)) (by (repeat constructor)) (by rfl) (by rfl) (by omega) (fun _ => by (repeat constructor)) ?_; intro v; refine j_owns (v := v) (by (repeat constructor)) ?_; rintro A6 c6 rfl hs6) | (refine gcall rfl rfl ?_; refine gF ?_; refine j_callN (f := 34) rfl rfl rfl rfl rfl rfl rfl (fun b : Nat => .slice (some ⟨b, 0, none⟩) 1 1) (fun _ => True) (fun b => [.own (.slice (some ⟨b, 0, none⟩) 1 1) 43 4 1 (std1.flatMap sdC)]) (fun w' _ => standard_c w') (fun _ => trivial) ?_; rintro bs _) | (refine gcall rfl rfl ?_; refine gF ?_; refine j_callN (f := 17) rfl rfl rfl rfl rfl rfl rfl (fun v => .tuple #[v, .int .i64 3]) (fun _ => True) (fun v => [.own v 35 9 0 []]) (fun w' hs => hM (some ⟨bs, 0, none⟩) A6 c6 w' (rs_own (f := sdC) (fun _ => rfl) hs (by (repeat constructor)) rfl rfl) (rs_own (f := snC) (l := sE j) (fun _ => rfl) hs (by (repeat constructor)) hsl.symm hcs.symm)) (fun _ => trivial) ?_; rintro v9 _; refine j_owns (v := v9) (by (repeat constructor)) ?_; rintro a9 c9 rfl hs9) | (refine gcall rfl rfl ?_; refine gF ?_; refine j_callN (f := 18) rfl rfl rfl rfl rfl rfl rfl (fun v => .tuple #[v, .int .i64 3]) (fun _ => True) (fun v => [.own v 35 9 0 []]) (fun w' hs => hC (some ⟨bs, 0, none⟩) A6 c6 w' (rs_own (f := sdC) (fun _ => rfl) hs (by (repeat constructor)) rfl rfl) (rs_own (f := snC) (l := sE j) (fun _ => rfl) hs (by (repeat constructor)) hsl.symm hcs.symm)) (fun _ => trivial) ?_; rintro v8 _; refine j_owns (v := v8) (by (repeat constructor)) ?_; rintro a8 c8 rfl hs8) | (refine gF ?_; (refine j_buildSlice rfl rfl rfl rfl rfl rfl rfl rfl rfl rfl rfl rfl ?_; intro b)) | (refine j_qe rfl rfl rfl ?_; refine ⟨_, q_len_slice rfl rfl rfl rfl, ?_⟩)) | (refine gSC ?_; first | refine sc_mv rfl ?_ | refine sc_q rfl ?_ | refine sc_region ?_) | (refine gSQ ?_; first | refine sq_go rfl ?_ | refine sq_mv rfl ?_) | refine j_nil ?_ | ((first | refine j_guard rfl rfl rfl rfl rfl ?_ ?_ | refine sc_cond rfl ?_ ?_) <;> intro hc <;> (first | exact absurd hc (by decide) | ((try simp only [engHC] at hc) <;> first | (exfalso; omega) | skip))))
        all_goals
          refine sq_loop (u + 1) ?_ ?_ ?_ ?_
          · show u + 1 ≤ 3; omega
          · show 3 - (u + 1) < 3 - u; omega
          · exact (by repeat (first | exact FSub.nil | refine FSub.cons rfl ?_ | refine FSub.conse rfl (by congr 1; push_cast; omega) ?_))
          · exact (by repeat (first | exact LSub.refl | refine LSub.cons (by repeat (first | exact Rem.here | apply Rem.there)) ?_ | apply LSub.skip))
      · have h6 : j = 499 ∨ j = 500 := by omega
        have hL1 : msF ofM std1 (sE j) 2000 500 = (0, [⟨1, 2, 3, j, j, 1, 0, 9941, 10000⟩]) := msE (k := ⟨1, 2, 3⟩) (fun _ _ => rfl) h6
        have hL2 : msF ofC std1 (sE j) 2000 500 = (0, [⟨1, 0, 0, j, j, 1, 0, 9941, 10000⟩]) := msE (k := ⟨1, 0, 0⟩) (fun _ _ => rfl) h6
        rw [hL1] at hM
        rw [hL2] at hC
        dsimp only at hM hC
        obtain ⟨r1, hr1⟩ : ∃ r : Rw, r = ⟨1, 2, 3, j, j, 1, 0, 9941, 10000⟩ := ⟨_, rfl⟩
        obtain ⟨r2, hr2⟩ : ∃ r : Rw, r = ⟨1, 0, 0, j, j, 1, 0, 9941, 10000⟩ := ⟨_, rfl⟩
        repeat' (first | (refine gJ ?_; first | refine js rfl rfl rfl rfl ?_ | (refine gload rfl rfl ?_; refine j_qe rfl rfl rfl ?_; refine ⟨_, q_loadA_own rfl rfl rfl rfl (by (repeat constructor)) (by rfl), ?_⟩) | refine jar rfl rfl rfl rfl rfl rfl rfl (by omega) ?_ | (refine gcall rfl rfl ?_; (refine j_qc (f := 33) rfl rfl rfl rfl rfl rfl rfl ?_; refine ⟨_, (fun w' _ => sent_c _ _ w'), ?_⟩)) | (refine gF ?_; refine j_append rfl rfl rfl rfl rfl rfl rfl rfl rfl rfl rfl (by (repeat constructor)) (by (repeat constructor)) (by rfl) (by rfl) (by omega) (fun _ => by (repeat constructor)) ?_; intro v; refine j_owns (v := v) (by (repeat constructor)) ?_; rintro A6 c6 rfl hs6) | (refine gcall rfl rfl ?_; refine gF ?_; refine j_callN (f := 34) rfl rfl rfl rfl rfl rfl rfl (fun b : Nat => .slice (some ⟨b, 0, none⟩) 1 1) (fun _ => True) (fun b => [.own (.slice (some ⟨b, 0, none⟩) 1 1) 43 4 1 (std1.flatMap sdC)]) (fun w' _ => standard_c w') (fun _ => trivial) ?_; rintro bs _) | (refine gcall rfl rfl ?_; refine gF ?_; refine j_callN (f := 17) rfl rfl rfl rfl rfl rfl rfl (fun v => .tuple #[v, .int .i64 0]) (fun _ => True) (fun v => [.own v 35 9 1 ([(⟨1, 2, 3, j, j, 1, 0, 9941, 10000⟩ : Rw)].flatMap rwC)]) (fun w' hs => hM (some ⟨bs, 0, none⟩) A6 c6 w' (rs_own (f := sdC) (fun _ => rfl) hs (by (repeat constructor)) rfl rfl) (rs_own (f := snC) (l := sE j) (fun _ => rfl) hs (by (repeat constructor)) hsl.symm hcs.symm)) (fun _ => trivial) ?_; rintro v9 _; refine j_ownp (v := v9) (by (repeat constructor)) (by omega) ?_; rintro a9 c9 rfl hs9) | (refine gcall rfl rfl ?_; refine gF ?_; refine j_callN (f := 18) rfl rfl rfl rfl rfl rfl rfl (fun v => .tuple #[v, .int .i64 0]) (fun _ => True) (fun v => [.own v 35 9 1 ([(⟨1, 0, 0, j, j, 1, 0, 9941, 10000⟩ : Rw)].flatMap rwC)]) (fun w' hs => hC (some ⟨bs, 0, none⟩) A6 c6 w' (rs_own (f := sdC) (fun _ => rfl) hs (by (repeat constructor)) rfl rfl) (rs_own (f := snC) (l := sE j) (fun _ => rfl) hs (by (repeat constructor)) hsl.symm hcs.symm)) (fun _ => trivial) ?_; rintro v8 _; refine j_ownp (v := v8) (by (repeat constructor)) (by omega) ?_; rintro a8 c8 rfl hs8) | (refine gF ?_; refine j_alloc (t := 35) rfl rfl rfl rfl rfl ?_; intro b8) | (refine j_qe rfl rfl rfl ?_; refine ⟨_, q_index_at 0 rfl rfl rfl rfl rfl (by omega), ?_⟩) | (refine j_qe rfl rfl rfl ?_; refine ⟨_, q_rowA (f := rwC) (l := [(⟨1, 2, 3, j, j, 1, 0, 9941, 10000⟩ : Rw)]) (i := 0) rfl rfl rfl rfl (by (repeat constructor)) (fun _ => rfl) rfl rfl, ?_⟩) | (refine j_qe rfl rfl rfl ?_; refine ⟨_, q_rowF (f := rwC) (l := [(⟨1, 0, 0, j, j, 1, 0, 9941, 10000⟩ : Rw)]) (i := 0) (off := 3) (v := .int .i64 j) rfl rfl rfl rfl (by (repeat constructor)) (fun _ => rfl) rfl rfl, ?_⟩) | (refine j_qe rfl rfl rfl ?_; refine ⟨_, q_rowF (f := rwC) (l := [(⟨1, 0, 0, j, j, 1, 0, 9941, 10000⟩ : Rw)]) (i := 0) (off := 1) (v := .int .i64 0) rfl rfl rfl rfl (by (repeat constructor)) (fun _ => rfl) rfl rfl, ?_⟩) | (refine j_qe rfl rfl rfl ?_; refine ⟨_, q_rowF (f := rwC) (l := [(⟨1, 0, 0, j, j, 1, 0, 9941, 10000⟩ : Rw)]) (i := 0) (off := 2) (v := .int .i64 0) rfl rfl rfl rfl (by (repeat constructor)) (fun _ => rfl) rfl rfl, ?_⟩) | (refine j_qe rfl rfl rfl ?_; refine ⟨_, q_neS rfl eqm35 rfl rfl (eq35r ⟨1, 2, 3, j, j, 1, 0, 9941, 10000⟩), ?_⟩) | (refine gF ?_; first | refine j_store rfl rfl rfl rfl rfl rfl rfl rfl (by (repeat constructor)) (by rfl) ?_ | (refine j_buildSlice rfl rfl rfl rfl rfl rfl rfl rfl rfl rfl rfl rfl ?_; intro b)) | (refine j_qe rfl rfl rfl ?_; first | refine ⟨_, q_len_slice rfl rfl rfl rfl, ?_⟩ | refine ⟨_, q_build_struct rfl rfl rfl rfl rfl, ?_⟩ | refine ⟨_, q_field_ext rfl rfl rfl rfl rfl, ?_⟩)) | (refine gSC ?_; first | refine sc_mv rfl ?_ | refine sc_q rfl ?_ | refine sc_region ?_ | refine sc_draw rfl mixed (by kernel_rfl) ?_) | (refine gSQ ?_; first | refine sq_go rfl ?_ | refine sq_mv rfl ?_) | refine j_nil ?_ | ((first | refine j_guard rfl rfl rfl rfl rfl ?_ ?_ | refine sc_cond rfl ?_ ?_) <;> intro hc <;> (first | exact absurd hc (by decide) | ((try simp only [engHC] at hc) <;> first | (exfalso; omega) | exact absurd trivial hc | skip))))
        all_goals
          refine sq_loop (u + 1) ?_ ?_ ?_ ?_
          · show u + 1 ≤ 3; omega
          · show 3 - (u + 1) < 3 - u; omega
          · exact (by repeat (first | exact FSub.nil | refine FSub.cons rfl ?_ | refine FSub.conse rfl (by congr 1; push_cast; omega) ?_))
          · exact (by repeat (first | exact LSub.refl | refine LSub.cons (by repeat (first | exact Rem.here | apply Rem.there)) ?_ | apply LSub.skip))
  · repeat' (first | (refine gJ ?_; first | refine js rfl rfl rfl rfl ?_ | (refine gcall rfl rfl ?_; (refine j_qc (f := 13) rfl rfl rfl rfl rfl rfl rfl ?_; refine ⟨_, (fun w' _ => awake_c w'), ?_⟩))) | (refine gSC ?_; first | refine sc_mv rfl ?_ | refine sc_q rfl ?_ | refine sc_region ?_) | (refine gSQ ?_; first | refine sq_go rfl ?_ | refine sq_mv rfl ?_ | refine sq_ende (by first | exact .inl rfl | exact .inr rfl) rfl rfl ⟨_, (RVs.cons (RV.tmp rfl) (RVs.nil)), ?_⟩) | refine j_nil ?_ | ((refine sc_cond rfl ?_ ?_) <;> intro hc <;> (((try simp only [engHC] at hc) <;> first | (exfalso; omega) | skip))))
    (intro w' hS; refine ⟨?_, hS.below⟩; simp only [pack])
end Go.Proofs.YtmakokbpadmfbaaGreat
