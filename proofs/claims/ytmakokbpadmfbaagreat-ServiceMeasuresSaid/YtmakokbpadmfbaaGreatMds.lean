/-
  In one text: Mad, Tra, Aw41, Lat, Mds.
-/
import Derived.Test.YtmakokbpadmfbaaGreatMe4
/-
  The items that are made.
-/
namespace Go.Proofs.YtmakokbpadmfbaaGreat
open Go.RowKit Eng
set_option linter.unusedVariables false
set_option linter.unusedSimpArgs false
set_option maxHeartbeats 8000000
attribute [local irreducible] SC SQ J Qt Calls Iterates LSub FSub
end Go.Proofs.YtmakokbpadmfbaaGreat

/-
  service: Transit.
-/
namespace Go.Proofs.YtmakokbpadmfbaaGreat
open Go.RowKit Eng
set_option linter.unusedVariables false
set_option linter.unusedSimpArgs false
set_option maxHeartbeats 8000000
attribute [local irreducible] SC SQ J Qt Calls Iterates LSub FSub
def trSel (cl fr to now : Int) (x : Sn) : Bool := decide (x.cl = cl ∧ x.fr = fr ∧ x.to = to) && delB x now
def trL (s : List Sn) (cl fr to now : Int) : List Int := (s.filter (trSel cl fr to now)).map fun x => x.de - x.ac
def trOk (s : List Sn) (now q : Int) : Prop := sentB s = true ∧ timeI now ∧ 0 ≤ q ∧ q ≤ 10000
instance (s : List Sn) (now q : Int) : Decidable (trOk s now q) := by unfold trOk; exact inferInstance
def trF (s : List Sn) (cl fr to now q : Int) : Int × Int :=
  if trOk s now q then (if (trL s cl fr to now).length = 0 then (0, 6) else (((sortI (trL s cl fr to now))[rank (trL s cl fr to now).length q.toNat]?).getD 0, 0)) else (0, 2)
theorem trL_snoc {s : List Sn} {i : Nat} {x : Sn} (cl fr to now : Int) (h : s[i]? = some x) : trL (s.take (i + 1)) cl fr to now = trL (s.take i) cl fr to now ++ (if trSel cl fr to now x = true then [x.de - x.ac] else []) := by
  unfold trL
  rw [take_snocS h, List.filter_append, List.map_append]
  congr 1
  simp only [List.filter_cons, List.filter_nil]
  split <;> rfl
theorem trL_len (s : List Sn) (cl fr to now : Int) : (trL s cl fr to now).length ≤ s.length := by unfold trL; rw [List.length_map]; exact List.length_filter_le _ _
set_option maxHeartbeats 8000000 in
theorem Transit_bad (B : Option Addr) (bc : Nat) (s : List Sn) (cl fr to now q : Int) (w : World) (hsl : s.length ≤ 9223372036854775807) (h2 : RS w 6 snC B s) (hbad : ¬ trOk s now q) :
    Calls Tryz.prog 22 #[.slice B s.length bc, .int .u8 cl, .int .i64 fr, .int .i64 to, .int .i64 now, .int .i64 q] w fun e w' => e = .returned (.tuple #[.int .i64 (trF s cl fr to now q).1, .int .i64 (trF s cl fr to now q).2]) ∧ Below w.heap.size w w' := by
  have hS := fun w' h' => RightSent_c B bc s w' hsl h'
  have hT := fun w' => isTime_c now w'
  have e : trF s cl fr to now q = (0, 2) := if_neg hbad
  rw [e]
  unfold trOk at hbad
  generalize sentB s = S at *
  generalize hm : s.length = m at *
  refine eng_start (n := 77) (args := [.slice B m bc, .int .u8 cl, .int .i64 fr, .int .i64 to, .int .i64 now, .int .i64 q]) tab tab_ok fns fns_ok [.tmp 12, .tmp 13] Tryz.func22 rfl rfl rfl rfl ?_
  cases S <;> by_cases ht : timeI now
  all_goals
    first | rw [decide_eq_true ht] at hT | rw [decide_eq_false ht] at hT
    simp only [ht, true_and, false_and, and_true, and_false, not_true_eq_false, not_false_eq_true, Bool.false_eq_true] at hbad
    repeat' (first | (refine gJ ?_; first | refine js rfl rfl rfl rfl ?_ | (refine gcall rfl rfl ?_; first | (refine j_qc (f := 45) rfl rfl rfl rfl rfl rfl rfl ?_; refine ⟨_, (fun w' hs => hS w' (h2.st hs)), ?_⟩) | (refine j_qc (f := 46) rfl rfl rfl rfl rfl rfl rfl ?_; refine ⟨_, (fun w' _ => hT w'), ?_⟩))) | (refine gSC ?_; first | refine sc_mv rfl ?_ | refine sc_q rfl ?_ | refine sc_region ?_) | (refine gSQ ?_; first | refine sq_go rfl ?_ | refine sq_mv rfl ?_ | refine sq_ende (by first | exact .inl rfl | exact .inr rfl) rfl rfl ⟨_, (RVs.cons (RV.tmp rfl) (RVs.cons (RV.tmp rfl) (RVs.nil))), ?_⟩) | refine j_nil ?_ | ((first | refine j_guard rfl rfl rfl rfl rfl ?_ ?_ | refine sc_cond rfl ?_ ?_) <;> intro hc <;> (first | exact absurd hc (by decide) | ((try simp only [engHC] at hc) <;> first | (exfalso; omega) | skip))))
    all_goals (intro w' hS; refine ⟨?_, hS.below⟩; simp only [pack])
set_option maxHeartbeats 8000000 in
theorem Transit_ok (B : Option Addr) (bc : Nat) (s : List Sn) (cl fr to now q : Int) (w : World) (h2 : RS w 6 snC B s) (hok : trOk s now q) :
    Calls Tryz.prog 22 #[.slice B s.length bc, .int .u8 cl, .int .i64 fr, .int .i64 to, .int .i64 now, .int .i64 q] w fun e w' => e = .returned (.tuple #[.int .i64 (trF s cl fr to now q).1, .int .i64 (trF s cl fr to now q).2]) ∧ Below w.heap.size w w' := by
  have hm9 := (sentB_ok hok.1).1
  have hsok := (sentB_ok hok.1).2
  have hS := fun w' h' => RightSent_c B bc s w' (by omega) h'
  have hT := fun w' => isTime_c now w'
  rw [hok.1] at hS
  rw [decide_eq_true hok.2.1] at hT
  have hres : trF s cl fr to now q = if (trL s cl fr to now).length = 0 then (0, 6) else (((sortI (trL s cl fr to now))[rank (trL s cl fr to now).length q.toNat]?).getD 0, 0) := if_pos hok
  obtain ⟨hq1, hq2⟩ := hok.2.2
  clear hok
  have hsn := fun i x (hx : s[i]? = some x) => trL_snoc cl fr to now hx
  have hln := fun i => trL_len (s.take i) cl fr to now
  have hall : s.take s.length = s := List.take_length
  have htl : ∀ i, (s.take i).length ≤ i := fun i => by rw [List.length_take]; omega
  obtain ⟨q9, rfl⟩ : ∃ q9 : Nat, q = q9 := ⟨q.toNat, by omega⟩
  rw [Int.toNat_natCast] at hres
  generalize hm : s.length = m at *
  refine eng_start (n := 77) (args := [.slice B m bc, .int .u8 cl, .int .i64 fr, .int .i64 to, .int .i64 now, .int .i64 q9]) tab tab_ok fns fns_ok [.tmp 12, .tmp 13] Tryz.func22 rfl rfl rfl rfl ?_
  repeat' (first | (refine gJ ?_; first | refine js rfl rfl rfl rfl ?_ | (refine gcall rfl rfl ?_; first | (refine j_qc (f := 45) rfl rfl rfl rfl rfl rfl rfl ?_; refine ⟨_, (fun w' hs => hS w' (h2.st hs)), ?_⟩) | (refine j_qc (f := 46) rfl rfl rfl rfl rfl rfl rfl ?_; refine ⟨_, (fun w' _ => hT w'), ?_⟩)) | (refine j_qe rfl rfl rfl ?_; refine ⟨_, q_len_slice rfl rfl rfl rfl, ?_⟩)) | (refine gSC ?_; first | refine sc_mv rfl ?_ | refine sc_q rfl ?_ | refine sc_region ?_) | (refine gSQ ?_; refine sq_go rfl ?_) | refine j_nil ?_ | ((first | refine j_guard rfl rfl rfl rfl rfl ?_ ?_ | refine sc_cond rfl ?_ ?_) <;> intro hc <;> (first | exact absurd hc (by decide) | ((try simp only [engHC] at hc) <;> first | (exfalso; omega) | skip))))
  refine sc_own_nil_at 3 1 ?_
  refine sc_loop (ι := Nat × Value) (fun i => i.1 ≤ m) (fun i => m - i.1) (fun i => [(1, .int .u8 cl), (2, .int .i64 fr), (3, .int .i64 to), (4, .int .i64 now), (5, .int .i64 q9), (14, i.2), (33, .slice B m bc), (34, .int .i64 m), (35, .int .i64 i.1)]) (fun i => [.own i.2 3 1 (trL (s.take i.1) cl fr to now).length ((trL (s.take i.1) cl fr to now).flatMap intC)]) (0, .slice none 0 0) (Nat.zero_le _) (by (try dsimp only); exact (by repeat (first | exact FSub.nil | refine FSub.cons rfl ?_ | refine FSub.conse rfl (by congr 1; omega) ?_))) (by repeat (first | exact LSub.refl | refine LSub.cons (by repeat (first | exact Rem.here | apply Rem.there)) ?_ | apply LSub.skip)) ?_
  rintro ⟨i, v0⟩ hi
  dsimp only at hi ⊢
  by_cases hlt : i < m
  · obtain ⟨x, hx⟩ : ∃ x, s[i]? = some x := ⟨_, List.getElem?_eq_getElem (by omega)⟩
    obtain ⟨ad, rfl, hX⟩ := h2 i x hx
    have hxok := hsok x (List.mem_of_getElem? hx)
    unfold okSn at hxok
    have e1 := hsn i x hx
    have hl1 : (trL (s.take i) cl fr to now).length ≤ 2000 := by have := hln i; have := htl i; omega
    have hD := fun w' => del_c x now w'
    have hdd : delB x now = true → x.de ≠ -1 := fun h9 => by unfold delB at h9; exact (of_decide_eq_true h9).1
    unfold trSel at e1
    clear hsn hln hall htl hS hT hsok
    by_cases hq3 : x.cl = cl ∧ x.fr = fr ∧ x.to = to
    · rw [decide_eq_true hq3, Bool.true_and] at e1
      cases hdb : delB x now
      · rw [hdb] at e1 hD
        rw [if_neg (by decide), List.append_nil] at e1
        repeat' (first | (refine gJ ?_; first | refine js rfl rfl rfl rfl ?_ | (refine gload rfl rfl ?_; refine j_qe rfl rfl rfl ?_; first | refine ⟨_, q_load_own rfl rfl rfl rfl (by (repeat constructor)) (by first | rfl | assumption), ?_⟩ | refine ⟨_, q_loadA_own rfl rfl rfl rfl (by (repeat constructor)) (by rfl), ?_⟩ | refine ⟨_, q_loadA_ext rfl rfl rfl rfl ⟨by assumption, (by first | exact id | assumption)⟩ (by rfl), ?_⟩) | refine jfield rfl rfl rfl rfl rfl rfl rfl rfl ?_ | refine jar rfl rfl rfl rfl rfl rfl rfl (by omega) ?_ | (refine gcall rfl rfl ?_; (refine j_qc (f := 48) rfl rfl rfl rfl rfl rfl rfl ?_; refine ⟨_, (fun w' _ => hD w'), ?_⟩)) | (refine gF ?_; first | refine j_store rfl rfl rfl rfl rfl rfl rfl rfl (by (repeat constructor)) (by rfl) ?_ | (refine j_alloc rfl rfl rfl rfl rfl ?_; intro b)) | (refine j_qe rfl rfl rfl ?_; refine ⟨_, q_index_nat rfl rfl rfl rfl rfl (by omega), ?_⟩)) | (refine gSC ?_; first | refine sc_mv rfl ?_ | refine sc_q rfl ?_ | refine sc_region ?_) | (refine gSQ ?_; first | refine sq_go rfl ?_ | refine sq_mv rfl ?_) | refine j_nil ?_ | ((first | refine j_guard rfl rfl rfl rfl rfl ?_ ?_ | refine sc_cond rfl ?_ ?_) <;> intro hc <;> (first | exact absurd hc (by decide) | ((try simp only [engHC] at hc) <;> first | (exfalso; omega) | skip))))
        exact sq_loop (i + 1, v0) (by show i + 1 ≤ m; omega) (by show m - (i + 1) < m - i; omega) (by (try dsimp only); exact (by repeat (first | exact FSub.nil | refine FSub.cons rfl ?_ | refine FSub.conse rfl (by congr 1; omega) ?_))) (by dsimp only; rw [e1]; exact (by repeat (first | exact LSub.refl | refine LSub.cons (by repeat (first | exact Rem.here | apply Rem.there)) ?_ | apply LSub.skip)))
      · have hde := hdd hdb
        rw [hdb] at e1 hD
        rw [if_pos rfl] at e1
        repeat' (first | (refine gJ ?_; first | refine js rfl rfl rfl rfl ?_ | (refine gload rfl rfl ?_; refine j_qe rfl rfl rfl ?_; first | refine ⟨_, q_load_own rfl rfl rfl rfl (by (repeat constructor)) (by first | rfl | assumption), ?_⟩ | refine ⟨_, q_loadA_own rfl rfl rfl rfl (by (repeat constructor)) (by rfl), ?_⟩ | refine ⟨_, q_loadA_ext rfl rfl rfl rfl ⟨by assumption, (by first | exact id | assumption)⟩ (by rfl), ?_⟩) | refine jfield rfl rfl rfl rfl rfl rfl rfl rfl ?_ | refine jar rfl rfl rfl rfl rfl rfl rfl (by omega) ?_ | (refine gcall rfl rfl ?_; (refine j_qc (f := 48) rfl rfl rfl rfl rfl rfl rfl ?_; refine ⟨_, (fun w' _ => hD w'), ?_⟩)) | (refine gF ?_; first | refine j_store rfl rfl rfl rfl rfl rfl rfl rfl (by (repeat constructor)) (by rfl) ?_ | (refine j_alloc rfl rfl rfl rfl rfl ?_; intro b) | (refine j_buildSlice rfl rfl rfl rfl rfl rfl rfl rfl rfl rfl rfl rfl ?_; intro b) | (refine j_append rfl rfl rfl rfl rfl rfl rfl rfl rfl rfl rfl (by (repeat constructor)) (by (repeat constructor)) (by rfl) (by rfl) (by omega) (fun _ => by (repeat constructor)) ?_; intro v)) | (refine j_qe rfl rfl rfl ?_; refine ⟨_, q_index_nat rfl rfl rfl rfl rfl (by omega), ?_⟩)) | (refine gSC ?_; first | refine sc_mv rfl ?_ | refine sc_q rfl ?_ | refine sc_region ?_) | (refine gSQ ?_; first | refine sq_go rfl ?_ | refine sq_mv rfl ?_) | refine j_nil ?_ | ((first | refine j_guard rfl rfl rfl rfl rfl ?_ ?_ | refine sc_cond rfl ?_ ?_) <;> intro hc <;> (first | exact absurd hc (by decide) | ((try simp only [engHC] at hc) <;> first | (exfalso; omega) | skip))))
        refine sq_loop (i + 1, v) (by show i + 1 ≤ m; omega) (by show m - (i + 1) < m - i; omega) (by (try dsimp only); exact (by repeat (first | exact FSub.nil | refine FSub.cons rfl ?_ | refine FSub.conse rfl (by congr 1; omega) ?_))) ?_
        dsimp only
        rw [e1, List.length_append, List.flatMap_append]
        exact (by repeat (first | exact LSub.refl | refine LSub.cons (by repeat (first | exact Rem.here | apply Rem.there)) ?_ | apply LSub.skip))
    · rw [decide_eq_false hq3, Bool.false_and, if_neg (by decide), List.append_nil] at e1
      repeat' (first | (refine gJ ?_; first | refine js rfl rfl rfl rfl ?_ | (refine gload rfl rfl ?_; refine j_qe rfl rfl rfl ?_; first | refine ⟨_, q_load_own rfl rfl rfl rfl (by (repeat constructor)) (by first | rfl | assumption), ?_⟩ | refine ⟨_, q_loadA_ext rfl rfl rfl rfl ⟨by assumption, (by first | exact id | assumption)⟩ (by rfl), ?_⟩) | refine jfield rfl rfl rfl rfl rfl rfl rfl rfl ?_ | refine jar rfl rfl rfl rfl rfl rfl rfl (by omega) ?_ | (refine gF ?_; first | refine j_store rfl rfl rfl rfl rfl rfl rfl rfl (by (repeat constructor)) (by rfl) ?_ | (refine j_alloc rfl rfl rfl rfl rfl ?_; intro b)) | (refine j_qe rfl rfl rfl ?_; refine ⟨_, q_index_nat rfl rfl rfl rfl rfl (by omega), ?_⟩)) | (refine gSC ?_; first | refine sc_mv rfl ?_ | refine sc_q rfl ?_ | refine sc_region ?_) | (refine gSQ ?_; first | refine sq_go rfl ?_ | refine sq_mv rfl ?_) | refine j_nil ?_ | ((first | refine j_guard rfl rfl rfl rfl rfl ?_ ?_ | refine sc_cond rfl ?_ ?_) <;> intro hc <;> (first | exact absurd hc (by decide) | ((try simp only [engHC] at hc) <;> first | (exfalso; omega) | skip))))
      all_goals exact sq_loop (i + 1, v0) (by show i + 1 ≤ m; omega) (by show m - (i + 1) < m - i; omega) (by (try dsimp only); exact (by repeat (first | exact FSub.nil | refine FSub.cons rfl ?_ | refine FSub.conse rfl (by congr 1; omega) ?_))) (by dsimp only; rw [e1]; exact (by repeat (first | exact LSub.refl | refine LSub.cons (by repeat (first | exact Rem.here | apply Rem.there)) ?_ | apply LSub.skip)))
  · have him : i = m := by omega
    subst him
    have hl1 : (trL s cl fr to now).length ≤ 2000 := by have := hln i; rw [hall] at this; omega
    rw [hall]
    generalize trL s cl fr to now = T at *
    refine sc_owns (v := v0) (by (repeat constructor)) ?_
    rintro A0 c0 rfl hs0
    by_cases hT0 : T.length = 0
    · rw [if_pos hT0] at hres
      rw [hres]
      repeat' (first | (refine gJ ?_; first | refine js rfl rfl rfl rfl ?_ | (refine j_qe rfl rfl rfl ?_; refine ⟨_, q_len_slice rfl rfl rfl rfl, ?_⟩)) | (refine gSC ?_; first | refine sc_mv rfl ?_ | refine sc_q rfl ?_ | refine sc_region ?_) | (refine gSQ ?_; first | refine sq_go rfl ?_ | refine sq_mv rfl ?_ | refine sq_ende (by first | exact .inl rfl | exact .inr rfl) rfl rfl ⟨_, (RVs.cons (RV.tmp rfl) (RVs.cons (RV.tmp rfl) (RVs.nil))), ?_⟩) | refine j_nil ?_ | ((refine sc_cond rfl ?_ ?_) <;> intro hc <;> (((try simp only [engHC] at hc) <;> first | (exfalso; omega) | skip))))
      (intro w' hS; refine ⟨?_, hS.below⟩; simp only [pack])
    · rw [if_neg hT0] at hres
      rw [hres]
      have hqc := fun w' h => quant_c A0 c0 T q9 w' (by omega) (by omega) (by omega) h
      repeat' (first | (refine gJ ?_; first | refine js rfl rfl rfl rfl ?_ | (refine gcall rfl rfl ?_; (refine j_qc (f := 49) rfl rfl rfl rfl rfl rfl rfl ?_; refine ⟨_, (fun w' hs => hqc w' ⟨rs_own (f := intC) (fun _ => rfl) hs (by (repeat constructor)) rfl rfl, fun h9 => ⟨List.length_eq_zero_iff.1 (hs0.nil h9).1, (hs0.nil h9).2⟩⟩), ?_⟩)) | (refine j_qe rfl rfl rfl ?_; refine ⟨_, q_len_slice rfl rfl rfl rfl, ?_⟩)) | (refine gSC ?_; first | refine sc_mv rfl ?_ | refine sc_q rfl ?_ | refine sc_region ?_) | (refine gSQ ?_; first | refine sq_go rfl ?_ | refine sq_mv rfl ?_ | refine sq_ende (by first | exact .inl rfl | exact .inr rfl) rfl rfl ⟨_, (RVs.cons (RV.tmp rfl) (RVs.cons (RV.tmp rfl) (RVs.nil))), ?_⟩) | refine j_nil ?_ | ((refine sc_cond rfl ?_ ?_) <;> intro hc <;> (((try simp only [engHC] at hc) <;> first | (exfalso; omega) | skip))))
      (intro w' hS; refine ⟨?_, hS.below⟩; simp only [pack])
theorem Transit_c (B : Option Addr) (bc : Nat) (s : List Sn) (cl fr to now q : Int) (w : World) (hsl : s.length ≤ 9223372036854775807) (h2 : RS w 6 snC B s) :
    Calls Tryz.prog 22 #[.slice B s.length bc, .int .u8 cl, .int .i64 fr, .int .i64 to, .int .i64 now, .int .i64 q] w fun e w' => e = .returned (.tuple #[.int .i64 (trF s cl fr to now q).1, .int .i64 (trF s cl fr to now q).2]) ∧ Below w.heap.size w w' := by
  by_cases hok : trOk s now q
  · exact Transit_ok B bc s cl fr to now q w h2 hok
  · exact Transit_bad B bc s cl fr to now q w hsl h2 hok
end Go.Proofs.YtmakokbpadmfbaaGreat

/-
  The examples of the chapter.
-/
namespace Go.Proofs.YtmakokbpadmfbaaGreat
open Go.RowKit Eng
set_option linter.unusedVariables false
set_option linter.unusedSimpArgs false
set_option maxHeartbeats 8000000
attribute [local irreducible] SC SQ J Qt Calls Iterates LSub FSub
theorem rw_eq (a b : Rw) : a = b ↔ a.cl = b.cl ∧ a.fr = b.fr ∧ a.to = b.to ∧ a.tr = b.tr ∧ a.kp = b.kp ∧ a.op = b.op ∧ a.ot = b.ot ∧ a.le = b.le ∧ a.gr = b.gr := by
  cases a; cases b; simp
theorem eqm35 : Tryz.prog.eqGuardType Tryz.prog.depth 35 = false := by kernel_rfl
theorem eq35 (a b : Rw) (w : World) : (Op.equalIn 10000 35 (rwV a) (rwV b)).run Tryz.prog w = .ok (decide (a = b)) w := by
  have u3 := Tryz.underlying3
  have a3 := Tryz.isAgg3
  have z3 := Tryz.sizeOf3
  have u5 := Tryz.underlying5
  have a5 := Tryz.isAgg5
  have z5 := Tryz.sizeOf5
  rw [run_equalIn_agg w 9999 35 _ _ (by kernel_rfl) (by kernel_rfl)]
  simp only [Program.fieldsOf, Tryz.underlying35]
  go_simp
  have e : decide (a = b) = decide (a.cl = b.cl ∧ a.fr = b.fr ∧ a.to = b.to ∧ a.tr = b.tr ∧ a.kp = b.kp ∧ a.op = b.op ∧ a.ot = b.ot ∧ a.le = b.le ∧ a.gr = b.gr) := decide_eq_decide.2 (rw_eq a b)
  rw [e]
  by_cases h1 : a.cl = b.cl
  · by_cases h2 : a.fr = b.fr
    · by_cases h3 : a.to = b.to
      · by_cases h4 : a.tr = b.tr
        · by_cases h5 : a.kp = b.kp
          · by_cases h6 : a.op = b.op
            · by_cases h7 : a.ot = b.ot
              · by_cases h8 : a.le = b.le <;> by_cases h9 : a.gr = b.gr <;> simp [h1, h2, h3, h4, h5, h6, h7, h8, h9]
              · simp [h1, h2, h3, h4, h5, h6, h7]
            · simp [h1, h2, h3, h4, h5, h6]
          · simp [h1, h2, h3, h4, h5]
        · simp [h1, h2, h3, h4]
      · simp [h1, h2, h3]
    · simp [h1, h2]
  · simp [h1]
theorem low_is {n k r L : Nat} (h1 : L = 0 ∨ posB n k r (L - 1) = false) (h2 : posB n k r L = true) (hL : L ≤ 10000) : lowF n k r = L := by
  refine lowest_eq (fun p hp => ?_) (fun _ => h2) hL
  rcases h1 with h | h
  · omega
  · cases hpp : posB n k r p with
    | false => rfl
    | true =>
      have := posB_mono n k r p (L - 1) (by omega) (by omega) hpp
      rw [h] at this
      cases this
theorem lowA : lowF 10 10 500 = 7412 := low_is (.inr (by decide +kernel)) (by decide +kernel) (by decide)
theorem lowB : lowF 10 0 500 = 0 := low_is (.inl rfl) (by decide +kernel) (by decide)
theorem ms_one {of : Sn → Lane} {l : List Sd} {s : List Sn} {now risk : Int} {k : Lane} {r : Rw} (h1 : msOk l s now risk) (h2 : lanesO of s = [k]) (h3 : rowAt of (fun x => outF l x now) s k = r) (h4 : r.tr ≤ 500) : msF of l s now risk = (0, [bndR r risk]) := by
  have hs : sortL (lanesO of s) = [k] := by rw [h2]; exact List.perm_singleton.1 (sortL_perm [k])
  unfold msF msLong msRows
  rw [if_pos h1, hs]
  simp only [List.any_cons, List.any_nil, Bool.or_false, List.map_cons, List.map_nil, h3]
  rw [if_neg (by simp; omega)]
def sentN (d : Int) (n : Nat) : List Sn := (List.range n).map fun j : Nat => sentF (1 + (j : Int)) d
theorem sentN_succ (d : Int) (n : Nat) : sentN d (n + 1) = sentN d n ++ [sentF (1 + (n : Int)) d] := by
  unfold sentN
  rw [List.range_succ, List.map_append]
  rfl
theorem sentN_len (d : Int) (n : Nat) : (sentN d n).length = n := by simp [sentN]
theorem keptM : msF ofM std1 (sentN 2000 10) 3000 500 = (0, [⟨1, 2, 3, 10, 10, 0, 0, 7412, 10000⟩]) := by
  rw [ms_one (k := ⟨1, 2, 3⟩) (r := ⟨1, 2, 3, 10, 10, 0, 0, 0, 0⟩) (by decide +kernel) (by decide +kernel) (by decide +kernel) (by decide)]
  have h1 : lowF (10 : Int).toNat (10 : Int).toNat (500 : Int).toNat = 7412 := lowA
  have h2 : lowF (10 : Int).toNat ((10 : Int).toNat - (10 : Int).toNat) (500 : Int).toNat = 0 := lowB
  unfold bndR
  simp only [h1, h2]
  rfl
theorem lateM : msF ofM std1 (sentN (-1) 10) 3000 500 = (0, [⟨1, 2, 3, 10, 0, 0, 0, 0, 2588⟩]) := by
  rw [ms_one (k := ⟨1, 2, 3⟩) (r := ⟨1, 2, 3, 10, 0, 0, 0, 0, 0⟩) (by decide +kernel) (by decide +kernel) (by decide +kernel) (by decide)]
  have h1 : lowF (10 : Int).toNat (0 : Int).toNat (500 : Int).toNat = 0 := lowB
  have h2 : lowF (10 : Int).toNat ((10 : Int).toNat - (0 : Int).toNat) (500 : Int).toNat = 7412 := lowA
  unfold bndR
  simp only [h1, h2]
  rfl
theorem trE : trF [sentF 1 600, sentF 2 800, sentF 3 2500] 1 2 3 3000 5000 = (300, 0) := by
  unfold trF
  rw [if_pos (by decide +kernel)]
  have hL : trL [sentF 1 600, sentF 2 800, sentF 3 2500] 1 2 3 3000 = [100, 300, 2000] := by decide +kernel
  rw [hL]
  have hsrt : sortI [100, 300, 2000] = [100, 300, 2000] := by unfold sortI; exact List.mergeSort_of_pairwise (by decide)
  rw [hsrt]
  rfl
structure Cs where
  x : Sn
  now : Int
  want : Int
abbrev csC (c : Cs) : List Value := snC c.x ++ [.int .i64 c.now, .int .u8 c.want]
def cases5 : List Cs := [⟨sentF 1 2879, 2878, 1⟩, ⟨sentF 1 2879, 2879, 2⟩, ⟨sentF 1 (-1), 2879, 1⟩, ⟨sentF 1 (-1), 2880, 3⟩, ⟨⟨1, 1, 3, 2, 500, 2879⟩, 2879, 4⟩]
theorem cases_ok : ∀ (i : Nat) (c : Cs), cases5[i]? = some c → judF std1 c.x c.now = (c.want, 0) := by
  have key : cases5.all (fun c => decide (judF std1 c.x c.now = (c.want, 0))) = true := by decide +kernel
  intro i c hc
  exact of_decide_eq_true (List.all_eq_true.1 key c (List.mem_of_getElem? hc))
theorem eq35r (a : Rw) (w : World) : (Op.equalIn 10000 35 (rwV a) (rwV a)).run Tryz.prog w = .ok true w := by rw [eq35, decide_eq_true rfl]
def rwK : Rw := ⟨1, 2, 3, 10, 10, 0, 0, 7412, 10000⟩
def rwL : Rw := ⟨1, 2, 3, 10, 0, 0, 0, 0, 2588⟩
theorem ver1 : verF rwK 7412 = (1, 0) := by decide
theorem ver2 : verF rwK 7413 = (3, 0) := by decide
theorem ver3 : verF rwL 2589 = (2, 0) := by decide
set_option maxRecDepth 4000 in
set_option maxHeartbeats 8000000 in
theorem awake_c (w : World) : Calls Tryz.prog 13 #[] w fun e w' => e = .returned (.bool true) ∧ Below w.heap.size w w' := by
  have hJ := fun (i : Nat) (x : Cs) (hx : cases5[i]? = some x) A w' h' => cases_ok i x hx ▸ Judge_c A 1 std1 x.x x.now w' (by simp [std1]) (by
    have key : cases5.all (fun c => decide (0 ≤ c.x.ac ∧ c.x.ac ≤ 1000000)) = true := by decide +kernel
    have := of_decide_eq_true (List.all_eq_true.1 key x (List.mem_of_getElem? hx))
    omega) h'
  have hk := fun A B bc w' h h2 => keptM ▸ Measure_c A 1 std1 B bc (sentN 2000 10) 3000 500 w' (by simp [std1]) (by rw [sentN_len]; omega) h h2
  have hl := fun A B bc w' h h2 => lateM ▸ Measure_c A 1 std1 B bc (sentN (-1) 10) 3000 500 w' (by simp [std1]) (by rw [sentN_len]; omega) h h2
  have ht := fun b w' h => trE ▸ Transit_c (some ⟨b, 0, none⟩) 3 [sentF 1 600, sentF 2 800, sentF 3 2500] 1 2 3 3000 5000 w' (by simp) h
  refine eng_start (n := 163) (args := []) tab tab_ok fns fns_ok [.tmp 0] Tryz.func13 rfl rfl rfl rfl ?_
  repeat' (first | (refine gJ ?_; first | refine js rfl rfl rfl rfl ?_ | (refine gload rfl rfl ?_; refine j_qe rfl rfl rfl ?_; refine ⟨_, q_loadA_own rfl rfl rfl rfl (by (repeat constructor)) (by rfl), ?_⟩) | refine jfield rfl rfl rfl rfl rfl rfl rfl rfl ?_ | (refine gcall rfl rfl ?_; (refine j_qc (f := 33) rfl rfl rfl rfl rfl rfl rfl ?_; refine ⟨_, (fun w' _ => sent_c _ _ w'), ?_⟩)) | (refine gF ?_; first | refine j_store rfl rfl rfl rfl rfl rfl rfl rfl (by (repeat constructor)) (by rfl) ?_ | (refine j_alloc rfl rfl rfl rfl rfl ?_; intro b) | (refine j_buildSlice rfl rfl rfl rfl rfl rfl rfl rfl rfl rfl rfl rfl ?_; intro b)) | (refine j_qe rfl rfl rfl ?_; first | refine ⟨_, q_len_slice rfl rfl rfl rfl, ?_⟩ | refine ⟨_, q_build_struct rfl rfl rfl rfl rfl, ?_⟩)) | (refine gSC ?_; first | refine sc_mv rfl ?_ | refine sc_region ?_ | refine sc_auto 3 (.q 0 (.q 1 (.q 2 (.q 3 (.q 4 (.q 5 (.q 6 (.q 7 (.q 8 (.q 9 (.q 12 (.e 10 (.q 11 (.z)))))))))))))) mixed ?_) | (refine gJG ?_; first | refine jg_q rfl (by kernel_rfl) ?_ | refine jg_e (by kernel_rfl) rfl ?_ | refine jg_done (by kernel_rfl) ?_) | (refine gSQ ?_; first | refine jg_next ?_ | (refine gFE ?_; refine jg_next1 ?_) | refine sq_go rfl ?_) | refine j_nil ?_)
  refine sc_lit 8 (n := 5) (by (repeat constructor)) rfl (by omega) ?_
  revert b; intro b5
  refine sc_loop (ι := Nat) (fun i => i ≤ 5) (fun i => 5 - i) (fun i => [(32, .slice (some ⟨b5, 0, none⟩) 5 5), (33, .int .i64 5), (34, .int .i64 i)]) (fun _ => [.own (.slice (some ⟨b5, 0, none⟩) 5 5) 70 8 5 (cases5.flatMap csC)]) 0 (Nat.zero_le _) (by (try dsimp only); exact (by repeat (first | exact FSub.nil | refine FSub.cons rfl ?_ | refine FSub.conse rfl (by congr 1; omega) ?_))) (by repeat (first | exact LSub.refl | refine LSub.cons (by repeat (first | exact Rem.here | apply Rem.there)) ?_ | apply LSub.skip)) ?_
  rintro i hi
  dsimp only at hi ⊢
  by_cases hlt : i < 5
  · obtain ⟨x, hx⟩ : ∃ x, cases5[i]? = some x := ⟨_, List.getElem?_eq_getElem (by simpa [cases5] using hlt)⟩
    have hJx := fun A w' h' => hJ i x hx A w' h'
    repeat' (first | (refine gJ ?_; first | refine js rfl rfl rfl rfl ?_ | (refine gload rfl rfl ?_; refine j_qe rfl rfl rfl ?_; first | refine ⟨_, q_load_own rfl rfl rfl rfl (by (repeat constructor)) (by first | rfl | assumption), ?_⟩ | refine ⟨_, q_loadA_own rfl rfl rfl rfl (by (repeat constructor)) (by rfl), ?_⟩) | refine jfield rfl rfl rfl rfl rfl rfl rfl rfl ?_ | refine jar rfl rfl rfl rfl rfl rfl rfl (by omega) ?_ | (refine gcall rfl rfl ?_; (refine j_qc (f := 21) rfl rfl rfl rfl rfl rfl rfl ?_; refine ⟨_, (fun w' hs => hJx (some ⟨bs, 0, none⟩) w' (rs_own (f := sdC) (fun _ => rfl) hs (by (repeat constructor)) rfl rfl)), ?_⟩)) | (refine gcall rfl rfl ?_; refine gF ?_; refine j_callN (f := 34) rfl rfl rfl rfl rfl rfl rfl (fun b : Nat => .slice (some ⟨b, 0, none⟩) 1 1) (fun _ => True) (fun b => [.own (.slice (some ⟨b, 0, none⟩) 1 1) 43 4 1 (std1.flatMap sdC)]) (fun w' _ => standard_c w') (fun _ => trivial) ?_; rintro bs _) | (refine j_qe rfl rfl rfl ?_; refine ⟨_, q_index_at i rfl rfl rfl rfl rfl (by omega), ?_⟩) | (refine j_qe rfl rfl rfl ?_; refine ⟨_, q_rowA (f := csC) (i := i) rfl rfl rfl rfl (by (repeat constructor)) (fun _ => rfl) hx rfl, ?_⟩) | (refine gF ?_; first | refine j_store rfl rfl rfl rfl rfl rfl rfl rfl (by (repeat constructor)) (by rfl) ?_ | (refine j_alloc rfl rfl rfl rfl rfl ?_; intro b))) | (refine gSC ?_; first | refine sc_mv rfl ?_ | refine sc_q rfl ?_ | refine sc_region ?_ | refine sc_auto 6 (.q 1 (.q 2 (.q 3 (.q 4 (.e 0 (.e 5 (.q 6 (.q 7 (.q 8 (.q 9 (.q 10 (.z)))))))))))) mixed ?_) | (refine gJG ?_; first | refine jg_q rfl (by kernel_rfl) ?_ | refine jg_e (by kernel_rfl) rfl ?_ | refine jg_done (by kernel_rfl) ?_) | (refine gSQ ?_; first | refine jg_next ?_ | (refine gFE ?_; first | refine jg_next0 ?_ | refine jg_next1 ?_) | refine sq_go rfl ?_ | refine sq_mv rfl ?_) | refine j_nil ?_ | ((first | refine j_guard rfl rfl rfl rfl rfl ?_ ?_ | refine sc_cond rfl ?_ ?_) <;> intro hc <;> (first | exact absurd hc (by decide) | ((try simp only [engHC] at hc) <;> first | (exfalso; omega) | exact absurd trivial hc | skip))))
    exact sq_loop (i + 1) (by show i + 1 ≤ 5; omega) (by show 5 - (i + 1) < 5 - i; omega) (by (try dsimp only); exact (by repeat (first | exact FSub.nil | refine FSub.cons rfl ?_ | refine FSub.conse rfl (by congr 1; omega) ?_))) (by repeat (first | exact LSub.refl | refine LSub.cons (by repeat (first | exact Rem.here | apply Rem.there)) ?_ | apply LSub.skip))
  · repeat' (first | (refine gJ ?_; refine js rfl rfl rfl rfl ?_) | (refine gSC ?_; first | refine sc_mv rfl ?_ | refine sc_q rfl ?_ | refine sc_region ?_) | (refine gSQ ?_; first | refine sq_go rfl ?_ | refine sq_mv rfl ?_) | refine j_nil ?_ | ((refine sc_cond rfl ?_ ?_) <;> intro hc <;> (((try simp only [engHC] at hc) <;> first | (exfalso; omega) | skip))))
    refine sc_own_nil_at 45 6 ?_
    refine sc_own_nil_at 45 6 ?_
    refine sc_loop (ι := Nat × Value × Value) (fun i => i.1 ≤ 10) (fun i => 10 - i.1) (fun i => [(6, i.2.1), (7, i.2.2), (8, .int .i64 (1 + (i.1 : Int)))]) (fun i => [.own i.2.1 45 6 i.1 ((sentN 2000 i.1).flatMap snC), .own i.2.2 45 6 i.1 ((sentN (-1) i.1).flatMap snC)]) (0, .slice none 0 0, .slice none 0 0) (Nat.zero_le _) (by (try dsimp only); exact (by repeat (first | exact FSub.nil | refine FSub.cons rfl ?_ | refine FSub.conse rfl (by congr 1; omega) ?_))) (by repeat (first | exact LSub.refl | refine LSub.cons (by repeat (first | exact Rem.here | apply Rem.there)) ?_ | apply LSub.skip)) ?_
    rintro ⟨j, v6, v7⟩ hj
    dsimp only at hj ⊢
    by_cases hlj : j < 10
    · have e1 := sentN_succ 2000 j
      have e2 := sentN_succ (-1) j
      repeat' (first | (refine gJ ?_; first | refine js rfl rfl rfl rfl ?_ | refine jar rfl rfl rfl rfl rfl rfl rfl (by omega) ?_ | (refine gcall rfl rfl ?_; (refine j_qc (f := 33) rfl rfl rfl rfl rfl rfl rfl ?_; refine ⟨_, (fun w' _ => sent_c _ _ w'), ?_⟩)) | (refine gF ?_; first | (refine j_buildSlice rfl rfl rfl rfl rfl rfl rfl rfl rfl rfl rfl rfl ?_; intro b) | (refine j_append rfl rfl rfl rfl rfl rfl rfl rfl rfl rfl rfl (by (repeat constructor)) (by (repeat constructor)) (by rfl) (by rfl) (by omega) (fun _ => by (repeat constructor)) ?_; intro v))) | (refine gSC ?_; first | refine sc_mv rfl ?_ | refine sc_q rfl ?_ | refine sc_region ?_) | (refine gSQ ?_; first | refine sq_go rfl ?_ | refine sq_mv rfl ?_) | refine j_nil ?_ | ((refine sc_cond rfl ?_ ?_) <;> intro hc <;> (((try simp only [engHC] at hc) <;> first | (exfalso; omega) | skip))))
      refine sq_loop (j + 1, _, _) (by show j + 1 ≤ 10; omega) (by show 10 - (j + 1) < 10 - j; omega) (by repeat (first | exact FSub.nil | refine FSub.cons rfl ?_ | refine FSub.conse rfl (by congr 1; push_cast; omega) ?_)) ?_
      dsimp only
      rw [e1, e2, List.flatMap_append, List.flatMap_append]
      exact (by repeat (first | exact LSub.refl | refine LSub.cons (by repeat (first | exact Rem.here | apply Rem.there)) ?_ | apply LSub.skip))
    · have hj10 : j = 10 := by omega
      subst hj10
      refine sc_owns (v := v6) (by (repeat constructor)) ?_
      rintro A6 c6 rfl hs6
      refine sc_owns (v := v7) (by (repeat constructor)) ?_
      rintro A7 c7 rfl hs7
      repeat' (first | (refine gJ ?_; first | refine js rfl rfl rfl rfl ?_ | refine jar rfl rfl rfl rfl rfl rfl rfl (by omega) ?_ | (refine gcall rfl rfl ?_; first | (refine j_qc (f := 33) rfl rfl rfl rfl rfl rfl rfl ?_; refine ⟨_, (fun w' _ => sent_c _ _ w'), ?_⟩) | (refine j_qc (f := 23) rfl rfl rfl rfl rfl rfl rfl ?_; refine ⟨_, (fun w' _ => ver1 ▸ Verdict_c rwK 7412 w'), ?_⟩) | (refine j_qc (f := 23) rfl rfl rfl rfl rfl rfl rfl ?_; refine ⟨_, (fun w' _ => ver2 ▸ Verdict_c rwK 7413 w'), ?_⟩) | (refine j_qc (f := 23) rfl rfl rfl rfl rfl rfl rfl ?_; refine ⟨_, (fun w' _ => ver3 ▸ Verdict_c rwL 2589 w'), ?_⟩) | (refine j_qc (f := 22) rfl rfl rfl rfl rfl rfl rfl ?_; refine ⟨_, (fun w' hs => ht b w' (rs_lit (f := snC) _ (fun _ => rfl) hs (by (repeat constructor)) rfl)), ?_⟩)) | (refine gcall rfl rfl ?_; refine gF ?_; refine j_callN (f := 34) rfl rfl rfl rfl rfl rfl rfl (fun b : Nat => .slice (some ⟨b, 0, none⟩) 1 1) (fun _ => True) (fun b => [.own (.slice (some ⟨b, 0, none⟩) 1 1) 43 4 1 (std1.flatMap sdC)]) (fun w' _ => standard_c w') (fun _ => trivial) ?_; rintro bs _) | (refine gcall rfl rfl ?_; refine gF ?_; refine j_callN (f := 17) rfl rfl rfl rfl rfl rfl rfl (fun v => .tuple #[v, .int .i64 0]) (fun _ => True) (fun v => [.own v 35 9 1 ([rwK].flatMap rwC)]) (fun w' hs => hk (some ⟨bs, 0, none⟩) A6 c6 w' (rs_own (f := sdC) (fun _ => rfl) hs (by (repeat constructor)) rfl rfl) (rs_own (f := snC) (l := sentN 2000 10) (fun _ => rfl) hs (by (repeat constructor)) rfl rfl)) (fun _ => trivial) ?_; rintro v9 _; refine j_ownp (v := v9) (by (repeat constructor)) (by omega) ?_; rintro a9 c9 rfl hs9) | (refine gcall rfl rfl ?_; refine gF ?_; refine j_callN (f := 17) rfl rfl rfl rfl rfl rfl rfl (fun v => .tuple #[v, .int .i64 0]) (fun _ => True) (fun v => [.own v 35 9 1 ([rwL].flatMap rwC)]) (fun w' hs => hl (some ⟨bs, 0, none⟩) A7 c7 w' (rs_own (f := sdC) (fun _ => rfl) hs (by (repeat constructor)) rfl rfl) (rs_own (f := snC) (l := sentN (-1) 10) (fun _ => rfl) hs (by (repeat constructor)) rfl rfl)) (fun _ => trivial) ?_; rintro v8 _; refine j_ownp (v := v8) (by (repeat constructor)) (by omega) ?_; rintro a8 c8 rfl hs8) | (refine j_qe rfl rfl rfl ?_; refine ⟨_, q_index_at 0 rfl rfl rfl rfl rfl (by omega), ?_⟩) | (refine j_qe rfl rfl rfl ?_; refine ⟨_, q_rowA (f := rwC) (l := [rwK]) (i := 0) rfl rfl rfl rfl (by (repeat constructor)) (fun _ => rfl) rfl rfl, ?_⟩) | (refine j_qe rfl rfl rfl ?_; refine ⟨_, q_rowA (f := rwC) (l := [rwL]) (i := 0) rfl rfl rfl rfl (by (repeat constructor)) (fun _ => rfl) rfl rfl, ?_⟩) | (refine j_qe rfl rfl rfl ?_; refine ⟨_, q_rowF (f := rwC) (l := [rwL]) (i := 0) (off := 8) rfl rfl rfl rfl (by (repeat constructor)) (fun _ => rfl) rfl rfl, ?_⟩) | (refine j_qe rfl rfl rfl ?_; refine ⟨_, q_neS rfl eqm35 rfl rfl (eq35r rwK), ?_⟩) | (refine gF ?_; (refine j_buildSlice rfl rfl rfl rfl rfl rfl rfl rfl rfl rfl rfl rfl ?_; intro b)) | (refine j_qe rfl rfl rfl ?_; first | refine ⟨_, q_len_slice rfl rfl rfl rfl, ?_⟩ | refine ⟨_, q_build_struct rfl rfl rfl rfl rfl, ?_⟩ | refine ⟨_, q_field_ext rfl rfl rfl rfl rfl, ?_⟩)) | (refine gSC ?_; first | refine sc_mv rfl ?_ | refine sc_q rfl ?_ | refine sc_region ?_) | (refine gSQ ?_; first | refine sq_go rfl ?_ | refine sq_mv rfl ?_ | refine sq_ende (by first | exact .inl rfl | exact .inr rfl) rfl rfl ⟨_, (RVs.cons (RV.tmp rfl) (RVs.nil)), ?_⟩) | refine j_nil ?_ | ((first | refine j_guard rfl rfl rfl rfl rfl ?_ ?_ | refine sc_cond rfl ?_ ?_) <;> intro hc <;> (first | exact absurd hc (by decide) | ((try simp only [engHC] at hc) <;> skip))))
      all_goals first | ((intro w' hS; refine ⟨?_, hS.below⟩; simp only [pack]); done) | ((intro w' hS; refine ⟨?_, hS.below⟩; simp only [pack]); exact rb (by simp))
end Go.Proofs.YtmakokbpadmfbaaGreat

/-
  ServiceLater.
-/
namespace Go.Proofs.YtmakokbpadmfbaaGreat
open Go.RowKit Eng
set_option linter.unusedVariables false
set_option linter.unusedSimpArgs false
set_option maxHeartbeats 8000000
attribute [local irreducible] SC SQ J Qt Calls Iterates LSub FSub
end Go.Proofs.YtmakokbpadmfbaaGreat

/-
  service, plain: the rows of items in closed form.
-/
namespace Go.Proofs.YtmakokbpadmfbaaGreat
open Go.RowKit Eng
set_option linter.unusedVariables false
set_option linter.unusedSimpArgs false
set_option maxHeartbeats 8000000
attribute [local irreducible] SC SQ J Qt Calls Iterates LSub FSub
theorem outF_range (l : List Sd) (x : Sn) (now : Int) : outF l x now = 1 ∨ outF l x now = 2 ∨ outF l x now = 3 ∨ outF l x now = 4 := by
  unfold outF
  (repeat' split) <;> simp
def nOf (of : Sn → Lane) (out : Sn → Int) (s : List Sn) (k : Lane) (o : Int) : Nat := s.countP fun x => decide (of x = k ∧ out x = o)
section
variable {of : Sn → Lane} {out : Sn → Int}
theorem sortL_memO {s : List Sn} {k : Lane} : k ∈ sortL (lanesO of s) ↔ ∃ x ∈ s, of x = k := by rw [(sortL_perm _).mem_iff, lanesO_mem]
end
/-! ### Right items -/
theorem snB_iff : ∀ (seen : List Int) (l : List Sn), snB seen l = true ↔ (∀ x ∈ l, okSn x) ∧ (l.map (·.it)).Nodup ∧ ∀ x ∈ l, x.it ∉ seen
  | seen, [] => by simp [snB]
  | seen, x :: l => by
    unfold snB
    rw [Bool.and_eq_true, Bool.and_eq_true, decide_eq_true_eq, snB_iff]
    simp only [List.mem_cons, List.mem_append, List.map_cons, List.nodup_cons, List.mem_map, Bool.not_eq_true', decide_eq_false_iff_not]
    constructor
    · rintro ⟨h1, h2, h3, h4, h5⟩
      refine ⟨fun y hy => ?_, ⟨fun ⟨y, hy, he⟩ => h5 y hy (.inr (.inl he)), h4⟩, fun y hy => ?_⟩
      · rcases hy with rfl | hy
        · exact h1
        · exact h3 y hy
      · rcases hy with rfl | hy
        · exact h2
        · exact fun h => h5 y hy (.inl h)
    · rintro ⟨h1, ⟨h2, h3⟩, h4⟩
      refine ⟨h1 x (.inl rfl), h4 x (.inl rfl), fun y hy => h1 y (.inr hy), h3, fun y hy h => ?_⟩
      rcases h with h | h | h
      · exact h4 y (.inr hy) h
      · exact h2 ⟨y, hy, h⟩
      · cases h
theorem sentB_iff (l : List Sn) : sentB l = true ↔ l.length ≤ 2000 ∧ (∀ x ∈ l, okSn x) ∧ (l.map (·.it)).Nodup := by
  unfold sentB
  rw [Bool.and_eq_true, decide_eq_true_eq, snB_iff]
  simp
/-- A row, with its bounds. -/
def rowF (of : Sn → Lane) (l : List Sd) (s : List Sn) (now risk : Int) (k : Lane) : Rw := bndR (rowAt of (fun x => outF l x now) s k) risk
theorem msRows_eq (of : Sn → Lane) (l : List Sd) (s : List Sn) (now risk : Int) : msRows of l s now risk = (sortL (lanesO of s)).map (rowF of l s now risk) := rfl
end Go.Proofs.YtmakokbpadmfbaaGreat
