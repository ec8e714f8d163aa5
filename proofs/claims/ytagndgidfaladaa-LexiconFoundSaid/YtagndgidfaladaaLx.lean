/-
  The lexicon as it lies in memory, read: right, at, Find, Word.
-/
import Derived.Test.YtagndgidfaladaaNw
namespace Go.Proofs.Ytagndgidfaladaa
open Go.RowKit Eng
set_option linter.unusedVariables false
set_option linter.unusedSimpArgs false
set_option maxHeartbeats 8000000
attribute [local irreducible] SC SQ J Qt Calls Iterates LSub FSub
open Go.RowKit in
theorem q_neq_nilp {C : Cx} {F : Fr} {L : List HA} {o : Oper} {t u : TypeId} {x y : Operand} {e : TypeId} {p : Option Addr} (ho : o.op = .binOp .neq t x y u) (hu : C.P.underlying t = some (.pointer e)) (hx : ev F x = some (.pointer p)) (hy : ev F y = some (.pointer none)) : Qv C o F L (.bool p.isSome) :=
  .of_run fun ac w hf hs => by
    have h1 : (binOp .neq t (.pointer p) (.pointer none)).run C.P w = .ok (.bool p.isSome) w := by
      have h0 : (Op.equalIn (9999 + 1) t (.pointer p) (.pointer none)).run C.P w = .ok p.isNone w := by
        rw [Op.equalIn]
        simp only [Sem.run_bind, run_underlying hu, Result.andThen_ok]
        cases p <;> simp
      simp only [binOp]
      simp [Op.equal, Op.maxDepth, h0]
    simp only [execOp, ho, hf.ev hx, hf.ev hy]
    simp only [eqGuard]
    simp [h1]
theorem q_neq_nilS {C : Cx} {F : Fr} {L : List HA} {o : Oper} {t u : TypeId} {x y : Operand} {e : TypeId} {p : Addr} (ho : o.op = .binOp .neq t x y u) (hu : C.P.underlying t = some (.pointer e)) (hx : ev F x = some (.pointer (some p))) (hy : ev F y = some (.pointer none)) : Qv C o F L (.bool true) := q_neq_nilp ho hu hx hy
theorem q_neq_nilN {C : Cx} {F : Fr} {L : List HA} {o : Oper} {t u : TypeId} {x y : Operand} {e : TypeId} (ho : o.op = .binOp .neq t x y u) (hu : C.P.underlying t = some (.pointer e)) (hx : ev F x = some (.pointer none)) (hy : ev F y = some (.pointer none)) : Qv C o F L (.bool false) := q_neq_nilp ho hu hx hy
/-- A lexicon of the words W, in memory. -/
structure LX (w : World) (W : List (List UInt8)) (bx rb rm : Nat) (A0 : Option Addr) (c0 : Nat) (ar : List Nd) : Prop where
  aw : ArW ar W
  hd : ar.head? = some ⟨[], rb, rm⟩
  top : Ext w ⟨bx, 0, none⟩ [.slice A0 W.length c0, ptrV rb]
  ws : RS w 1 strC A0 W
  sl : Sl A0 W.length c0
  nd : ∀ x ∈ ar, Ext w ⟨x.b, 0, none⟩ (ndC W x) ∧ ∃ es clk, MapG w x.m .u8 (kvs ar x.path) es clk
def nodeO (ar : List Nd) (p : List UInt8) : Option Addr := (ar.find? fun x => decide (x.path = p)).map fun x => ⟨x.b, 0, none⟩
theorem nodeO_some {ar : List Nd} (h : Ar ar) {x : Nd} (hx : x ∈ ar) : nodeO ar x.path = some ⟨x.b, 0, none⟩ := by
  unfold nodeO
  cases hf : ar.find? (fun y => decide (y.path = x.path)) with
  | none =>
    have := List.find?_eq_none.1 hf x hx
    simp at this
  | some y =>
    have h1 := List.mem_of_find?_eq_some hf
    have h2 := List.find?_some hf
    rw [h.uniq h1 hx (of_decide_eq_true h2)]
    rfl
theorem nodeO_none {ar : List Nd} {p : List UInt8} (h : ∀ x ∈ ar, x.path ≠ p) : nodeO ar p = none := by
  unfold nodeO
  rw [List.find?_eq_none.2 fun x hx => by simp [h x hx]]
  rfl
theorem nodeO_cases {ar : List Nd} (h : Ar ar) (p : List UInt8) : (∃ x ∈ ar, x.path = p ∧ nodeO ar p = some ⟨x.b, 0, none⟩) ∨ ((∀ x ∈ ar, x.path ≠ p) ∧ nodeO ar p = none) := by
  by_cases hx : ∃ x ∈ ar, x.path = p
  · obtain ⟨x, hx, rfl⟩ := hx
    exact .inl ⟨x, hx, rfl, nodeO_some h hx⟩
  · exact .inr ⟨fun x hm e => hx ⟨x, hm, e⟩, nodeO_none fun x hm e => hx ⟨x, hm, e⟩⟩
/-- The place one byte further. -/
theorem kvs_node {ar : List Nd} (h : Ar ar) (p : List UInt8) (c : UInt8) : (mlk (kvs ar p) c.toNat).getD (.pointer none) = .pointer (nodeO ar (p ++ [c])) := by
  rcases nodeO_cases h (p ++ [c]) with ⟨y, hy, e, h1⟩ | ⟨h1, h2⟩
  · rw [kvs_get h hy e, h1]; rfl
  · rw [mlk_none (kvs_no h1), h2]; rfl
theorem LX.later {w w' : World} {W : List (List UInt8)} {bx rb rm : Nat} {A0 : Option Addr} {c0 : Nat} {ar : List Nd} (h : LX w W bx rb rm A0 c0 ar) {L : List HA} (hs : St w Cold L w') : LX w' W bx rb rm A0 c0 ar where
  aw := h.aw
  hd := h.hd
  top := h.top.st hs
  ws := h.ws.st hs
  sl := h.sl
  nd := fun x hx => by
    obtain ⟨h1, es, clk, h2⟩ := h.nd x hx
    exact ⟨h1.st hs, es, clk, h2.st hs⟩
section
variable {w : World} {W : List (List UInt8)} {bx rb rm : Nat} {A0 : Option Addr} {c0 : Nat} {ar : List Nd}
theorem LX.root (h : LX w W bx rb rm A0 c0 ar) : (⟨[], rb, rm⟩ : Nd) ∈ ar := List.mem_of_head? h.hd
set_option maxRecDepth 4000 in
theorem rightL_c (h : LX w W bx rb rm A0 c0 ar) : Calls Try.prog 23 #[ptrV bx] w fun e w' => e = .returned (.bool true) ∧ Below w.heap.size w w' := by
  have hT := h.top
  refine eng_start (n := 12) (args := [ptrV bx]) tab tab_ok fns fns_ok [.tmp 2] Try.func23 rfl rfl rfl rfl ?_
  repeat' (first | (refine gJ ?_; first | refine js rfl rfl rfl rfl ?_ | (refine gload rfl rfl ?_; refine j_qe rfl rfl rfl ?_; first | refine ⟨_, q_load_own rfl rfl rfl rfl (by (repeat constructor)) (by first | rfl | assumption), ?_⟩ | refine ⟨_, q_loadA_own rfl rfl rfl rfl (by (repeat constructor)) (by rfl), ?_⟩ | refine ⟨_, q_loadA_ext rfl rfl rfl rfl ⟨by assumption, (by first | exact id | assumption)⟩ (by rfl), ?_⟩ | refine ⟨_, q_load_ext rfl rfl rfl rfl ⟨by assumption, (by first | exact id | assumption)⟩ (by first | rfl | assumption), ?_⟩ | refine ⟨_, q_load_extb rfl rfl rfl rfl ⟨by assumption, (by first | exact id | assumption)⟩ (by rfl), ?_⟩ | refine ⟨_, q_loadA_extb rfl rfl rfl rfl ⟨by assumption, (by first | exact id | assumption)⟩ (by rfl), ?_⟩ | refine ⟨_, q_load_ext0 rfl rfl rfl rfl ⟨by assumption, (by first | exact id | assumption)⟩ (by rfl), ?_⟩) | refine jfield rfl rfl rfl rfl rfl rfl rfl rfl ?_ | (refine j_qe rfl rfl rfl ?_; first | refine ⟨_, q_neq_nilS rfl rfl rfl rfl, ?_⟩ | refine ⟨_, q_neq_nilN rfl rfl rfl rfl, ?_⟩) | (refine j_qe rfl rfl rfl ?_; first | refine ⟨_, q_field_ext rfl rfl rfl rfl rfl, ?_⟩) | refine j_guard_undef rfl rfl rfl rfl rfl ?_) | (refine gSC ?_; first | refine sc_mv rfl ?_ | refine sc_q rfl ?_ | refine sc_region ?_) | (refine gSQ ?_; first | refine sq_go rfl ?_ | refine sq_mv rfl ?_ | refine sq_ende (by first | exact .inl rfl | exact .inr rfl) rfl rfl ⟨_, (RVs.cons (RV.tmp rfl) (RVs.nil)), ?_⟩) | refine j_nil ?_ | ((first | refine j_guard rfl rfl rfl rfl rfl ?_ ?_ | refine sc_cond rfl ?_ ?_) <;> intro hc <;> (first | exact absurd hc (by decide) | ((try simp only [engHC] at hc) <;> first | (exfalso; omega) | exact absurd trivial hc | skip))))
  all_goals first
    | (exfalso; omega)
    | (intro w' hS; refine ⟨?_, hS.below⟩; simp only [pack])
set_option maxRecDepth 4000 in
theorem at_c (h : LX w W bx rb rm A0 c0 ar) (s : List UInt8) (hsl : s.length ≤ 1000) : Calls Try.prog 34 #[ptrV bx, strV s] w fun e w' => e = .returned (.pointer (nodeO ar s)) ∧ Below w.heap.size w w' := by
  have hT := h.top
  have hr := fun (w' : World) (hl : LX w' W bx rb rm A0 c0 ar) => rightL_c hl
  refine eng_start (n := 33) (args := [ptrV bx, strV s]) tab tab_ok fns fns_ok [.tmp 4] Try.func34 rfl rfl rfl rfl ?_
  repeat' (first | (refine gJ ?_; first | refine js rfl rfl rfl rfl ?_ | (refine gload rfl rfl ?_; refine j_qe rfl rfl rfl ?_; first | refine ⟨_, q_load_own rfl rfl rfl rfl (by (repeat constructor)) (by first | rfl | assumption), ?_⟩ | refine ⟨_, q_loadA_own rfl rfl rfl rfl (by (repeat constructor)) (by rfl), ?_⟩ | refine ⟨_, q_loadA_ext rfl rfl rfl rfl ⟨by assumption, (by first | exact id | assumption)⟩ (by rfl), ?_⟩ | refine ⟨_, q_load_ext rfl rfl rfl rfl ⟨by assumption, (by first | exact id | assumption)⟩ (by first | rfl | assumption), ?_⟩ | refine ⟨_, q_load_extb rfl rfl rfl rfl ⟨by assumption, (by first | exact id | assumption)⟩ (by rfl), ?_⟩ | refine ⟨_, q_loadA_extb rfl rfl rfl rfl ⟨by assumption, (by first | exact id | assumption)⟩ (by rfl), ?_⟩ | refine ⟨_, q_load_ext0 rfl rfl rfl rfl ⟨by assumption, (by first | exact id | assumption)⟩ (by rfl), ?_⟩) | refine jfield rfl rfl rfl rfl rfl rfl rfl rfl ?_ | refine jar rfl rfl rfl rfl rfl rfl rfl (by omega) ?_ | (refine gcall rfl rfl ?_; first | (refine j_qc (f := 23) rfl rfl rfl rfl rfl rfl rfl ?_; refine ⟨_, (fun w' hs => hr w' (h.later hs)), ?_⟩)) | (refine j_qe rfl rfl rfl ?_; first | refine ⟨_, q_len_slice rfl rfl rfl rfl, ?_⟩ | refine ⟨_, q_field_ext rfl rfl rfl rfl rfl, ?_⟩ | refine ⟨_, q_addu8 rfl rfl rfl (by omega), ?_⟩) | refine j_guard_undef rfl rfl rfl rfl rfl ?_) | (refine gSC ?_; first | refine sc_mv rfl ?_ | refine sc_q rfl ?_ | refine sc_region ?_ | refine sc_draw rfl mixed (by kernel_rfl) ?_) | (refine gSQ ?_; first | refine sq_go rfl ?_ | refine sq_mv rfl ?_ | refine sq_ende (by first | exact .inl rfl | exact .inr rfl) rfl rfl ⟨_, (RVs.cons (RV.tmp rfl) (RVs.nil)), ?_⟩) | refine j_nil ?_ | ((first | refine j_guard rfl rfl rfl rfl rfl ?_ ?_ | refine sc_cond rfl ?_ ?_) <;> intro hc <;> (first | exact absurd hc (by decide) | ((try simp only [engHC] at hc) <;> first | (exfalso; omega) | exact absurd trivial hc | skip))))
  have h0 : nodeO ar (s.take 0) = some ⟨rb, 0, none⟩ := nodeO_some h.aw.ok h.root
  refine sc_loop (ι := Nat) (fun k => k ≤ s.length) (fun k => s.length - k) (fun k => [(0, ptrV bx), (1, strV s), (5, .pointer (nodeO ar (s.take k))), (6, .int .i64 k)]) (fun _ => []) 0 (Nat.zero_le _) (FSub.cons rfl (FSub.cons rfl (FSub.conse rfl (congrArg Value.pointer h0.symm) (FSub.cons rfl FSub.nil)))) (by repeat (first | exact LSub.refl | refine LSub.cons (by repeat (first | exact Rem.here | apply Rem.there)) ?_ | apply LSub.skip)) ?_
  intro k hk
  dsimp only at hk ⊢
  rcases nodeO_cases h.aw.ok (s.take k) with ⟨x, hx, hxp, hnx⟩ | ⟨hno, hnx⟩
  · rw [hnx]
    obtain ⟨hE, es, clk, hG⟩ := h.nd x hx
    by_cases hlt : k < s.length
    · obtain ⟨y, hy⟩ : ∃ y, s[k]? = some y := ⟨_, List.getElem?_eq_getElem hlt⟩
      have hkv := kvs_node h.aw.ok x.path y
      rw [hxp, ← take_snoc hy] at hkv
      rw [hxp] at hG
      repeat' (first | (refine gJ ?_; first | refine js rfl rfl rfl rfl ?_ | (refine gload rfl rfl ?_; refine j_qe rfl rfl rfl ?_; first | refine ⟨_, q_load_own rfl rfl rfl rfl (by (repeat constructor)) (by first | rfl | assumption), ?_⟩ | refine ⟨_, q_loadA_own rfl rfl rfl rfl (by (repeat constructor)) (by rfl), ?_⟩ | refine ⟨_, q_loadA_ext rfl rfl rfl rfl ⟨by assumption, (by first | exact id | assumption)⟩ (by rfl), ?_⟩ | refine ⟨_, q_load_ext rfl rfl rfl rfl ⟨by assumption, (by first | exact id | assumption)⟩ (by first | rfl | assumption), ?_⟩ | refine ⟨_, q_load_extb rfl rfl rfl rfl ⟨by assumption, (by first | exact id | assumption)⟩ (by rfl), ?_⟩ | refine ⟨_, q_loadA_extb rfl rfl rfl rfl ⟨by assumption, (by first | exact id | assumption)⟩ (by rfl), ?_⟩ | refine ⟨_, q_load_ext0 rfl rfl rfl rfl ⟨by assumption, (by first | exact id | assumption)⟩ (by rfl), ?_⟩) | refine jfield rfl rfl rfl rfl rfl rfl rfl rfl ?_ | refine jar rfl rfl rfl rfl rfl rfl rfl (by omega) ?_ | (refine j_qe rfl rfl rfl ?_; refine ⟨_, q_len_str rfl Try.underlying9 rfl, ?_⟩) | (refine j_qe rfl rfl rfl ?_; first | refine ⟨_, q_neq_nilS rfl rfl rfl rfl, ?_⟩ | refine ⟨_, q_neq_nilN rfl rfl rfl rfl, ?_⟩) | (refine j_qe rfl rfl rfl ?_; refine ⟨_, q_index_str (b := y) k rfl Try.underlying9 rfl rfl rfl hy, ?_⟩) | (refine j_qe rfl rfl rfl ?_; refine ⟨_, q_lookupG (v := .pointer (nodeO ar (s.take (k + 1)))) rfl rfl rfl rfl rfl rfl rfl rfl ⟨hG, fun h => h⟩ (by exact hkv), ?_⟩) | (refine j_qe rfl rfl rfl ?_; first | refine ⟨_, q_len_slice rfl rfl rfl rfl, ?_⟩ | refine ⟨_, q_field_ext rfl rfl rfl rfl rfl, ?_⟩ | refine ⟨_, q_addu8 rfl rfl rfl (by omega), ?_⟩) | refine j_guard_undef rfl rfl rfl rfl rfl ?_) | (refine gSC ?_; first | refine sc_mv rfl ?_ | refine sc_q rfl ?_ | refine sc_region ?_ | refine sc_draw rfl mixed (by kernel_rfl) ?_) | (refine gSQ ?_; first | refine sq_go rfl ?_ | refine sq_mv rfl ?_ | refine sq_ende (by first | exact .inl rfl | exact .inr rfl) rfl rfl ⟨_, (RVs.cons (RV.tmp rfl) (RVs.nil)), ?_⟩) | refine j_nil ?_ | ((first | refine j_guard rfl rfl rfl rfl rfl ?_ ?_ | refine sc_cond rfl ?_ ?_) <;> intro hc <;> (first | exact absurd hc (by decide) | ((try simp only [engHC] at hc) <;> first | (exfalso; omega) | exact absurd trivial hc | skip))))
      exact sq_loop (k + 1) hlt (by show s.length - (k + 1) < s.length - k; omega) (by (try dsimp only); exact (by repeat (first | exact FSub.nil | refine FSub.cons rfl ?_ | refine FSub.conse rfl (by congr 1; omega) ?_))) (by repeat (first | exact LSub.refl | refine LSub.cons (by repeat (first | exact Rem.here | apply Rem.there)) ?_ | apply LSub.skip))
    · have e : s.take k = s := List.take_of_length_le (by omega)
      rw [e] at hnx
      rw [hnx]
      repeat' (first | (refine gJ ?_; first | refine js rfl rfl rfl rfl ?_ | (refine gload rfl rfl ?_; refine j_qe rfl rfl rfl ?_; first | refine ⟨_, q_load_own rfl rfl rfl rfl (by (repeat constructor)) (by first | rfl | assumption), ?_⟩ | refine ⟨_, q_loadA_own rfl rfl rfl rfl (by (repeat constructor)) (by rfl), ?_⟩ | refine ⟨_, q_loadA_ext rfl rfl rfl rfl ⟨by assumption, (by first | exact id | assumption)⟩ (by rfl), ?_⟩ | refine ⟨_, q_load_ext rfl rfl rfl rfl ⟨by assumption, (by first | exact id | assumption)⟩ (by first | rfl | assumption), ?_⟩ | refine ⟨_, q_load_extb rfl rfl rfl rfl ⟨by assumption, (by first | exact id | assumption)⟩ (by rfl), ?_⟩ | refine ⟨_, q_loadA_extb rfl rfl rfl rfl ⟨by assumption, (by first | exact id | assumption)⟩ (by rfl), ?_⟩ | refine ⟨_, q_load_ext0 rfl rfl rfl rfl ⟨by assumption, (by first | exact id | assumption)⟩ (by rfl), ?_⟩) | refine jfield rfl rfl rfl rfl rfl rfl rfl rfl ?_ | refine jar rfl rfl rfl rfl rfl rfl rfl (by omega) ?_ | (refine j_qe rfl rfl rfl ?_; refine ⟨_, q_len_str rfl Try.underlying9 rfl, ?_⟩) | (refine j_qe rfl rfl rfl ?_; first | refine ⟨_, q_len_slice rfl rfl rfl rfl, ?_⟩ | refine ⟨_, q_field_ext rfl rfl rfl rfl rfl, ?_⟩ | refine ⟨_, q_addu8 rfl rfl rfl (by omega), ?_⟩) | refine j_guard_undef rfl rfl rfl rfl rfl ?_) | (refine gSC ?_; first | refine sc_mv rfl ?_ | refine sc_q rfl ?_ | refine sc_region ?_ | refine sc_draw rfl mixed (by kernel_rfl) ?_) | (refine gSQ ?_; first | refine sq_go rfl ?_ | refine sq_mv rfl ?_ | refine sq_ende (by first | exact .inl rfl | exact .inr rfl) rfl rfl ⟨_, (RVs.cons (RV.tmp rfl) (RVs.nil)), ?_⟩) | refine j_nil ?_ | ((first | refine j_guard rfl rfl rfl rfl rfl ?_ ?_ | refine sc_cond rfl ?_ ?_) <;> intro hc <;> (first | exact absurd hc (by decide) | ((try simp only [engHC] at hc) <;> first | (exfalso; omega) | exact absurd trivial hc | skip))))
      all_goals first
        | (exfalso; omega)
        | (intro w' hS; refine ⟨?_, hS.below⟩; simp only [pack])
  · rw [hnx]
    have e : nodeO ar s = none := nodeO_none fun x hx e => by
      subst e
      obtain ⟨y, hy, e2⟩ := h.aw.ok.pre (x.path.length - k) hx (p := x.path.take k) (by rw [List.length_take]; omega) (List.take_prefix _ _)
      exact hno y hy e2
    rw [e]
    repeat' (first | (refine gJ ?_; first | refine js rfl rfl rfl rfl ?_ | (refine gload rfl rfl ?_; refine j_qe rfl rfl rfl ?_; first | refine ⟨_, q_load_own rfl rfl rfl rfl (by (repeat constructor)) (by first | rfl | assumption), ?_⟩ | refine ⟨_, q_loadA_own rfl rfl rfl rfl (by (repeat constructor)) (by rfl), ?_⟩ | refine ⟨_, q_loadA_ext rfl rfl rfl rfl ⟨by assumption, (by first | exact id | assumption)⟩ (by rfl), ?_⟩ | refine ⟨_, q_load_ext rfl rfl rfl rfl ⟨by assumption, (by first | exact id | assumption)⟩ (by first | rfl | assumption), ?_⟩ | refine ⟨_, q_load_extb rfl rfl rfl rfl ⟨by assumption, (by first | exact id | assumption)⟩ (by rfl), ?_⟩ | refine ⟨_, q_loadA_extb rfl rfl rfl rfl ⟨by assumption, (by first | exact id | assumption)⟩ (by rfl), ?_⟩ | refine ⟨_, q_load_ext0 rfl rfl rfl rfl ⟨by assumption, (by first | exact id | assumption)⟩ (by rfl), ?_⟩) | refine jfield rfl rfl rfl rfl rfl rfl rfl rfl ?_ | refine jar rfl rfl rfl rfl rfl rfl rfl (by omega) ?_ | (refine j_qe rfl rfl rfl ?_; refine ⟨_, q_len_str rfl Try.underlying9 rfl, ?_⟩) | (refine j_qe rfl rfl rfl ?_; first | refine ⟨_, q_neq_nilS rfl rfl rfl rfl, ?_⟩ | refine ⟨_, q_neq_nilN rfl rfl rfl rfl, ?_⟩) | (refine j_qe rfl rfl rfl ?_; first | refine ⟨_, q_len_slice rfl rfl rfl rfl, ?_⟩ | refine ⟨_, q_field_ext rfl rfl rfl rfl rfl, ?_⟩ | refine ⟨_, q_addu8 rfl rfl rfl (by omega), ?_⟩) | refine j_guard_undef rfl rfl rfl rfl rfl ?_) | (refine gSC ?_; first | refine sc_mv rfl ?_ | refine sc_q rfl ?_ | refine sc_region ?_ | refine sc_draw rfl mixed (by kernel_rfl) ?_) | (refine gSQ ?_; first | refine sq_go rfl ?_ | refine sq_mv rfl ?_ | refine sq_ende (by first | exact .inl rfl | exact .inr rfl) rfl rfl ⟨_, (RVs.cons (RV.tmp rfl) (RVs.nil)), ?_⟩) | refine j_nil ?_ | ((first | refine j_guard rfl rfl rfl rfl rfl ?_ ?_ | refine sc_cond rfl ?_ ?_) <;> intro hc <;> (first | exact absurd hc (by decide) | ((try simp only [engHC] at hc) <;> first | (exfalso; omega) | exact absurd trivial hc | skip))))
    all_goals first
      | (exfalso; omega)
      | (intro w' hS; refine ⟨?_, hS.below⟩; simp only [pack])
set_option maxRecDepth 4000 in
theorem Find_c (h : LX w W bx rb rm A0 c0 ar) (s : List UInt8) (hsl : s.length ≤ 1000) : Calls Try.prog 15 #[ptrV bx, strV s] w fun e w' => e = .returned (.tuple #[.int .i64 (if wno W s < 0 then 0 else wno W s), .bool (decide (¬ wno W s < 0))]) ∧ Below w.heap.size w w' := by
  have ha := fun (w' : World) (hl : LX w' W bx rb rm A0 c0 ar) => at_c hl s hsl
  rcases nodeO_cases h.aw.ok s with ⟨x, hx, rfl, hnx⟩ | ⟨hno, hnx⟩
  · rw [hnx] at ha
    obtain ⟨hE, _⟩ := h.nd x hx
    by_cases hneg : wno W x.path < 0
    · rw [if_pos hneg, decide_eq_false (fun e => e hneg)]
      refine eng_start (n := 23) (args := [ptrV bx, strV x.path]) tab tab_ok fns fns_ok [.tmp 4, .tmp 5] Try.func15 rfl rfl rfl rfl ?_
      repeat' (first | (refine gJ ?_; first | refine js rfl rfl rfl rfl ?_ | (refine gload rfl rfl ?_; refine j_qe rfl rfl rfl ?_; first | refine ⟨_, q_load_own rfl rfl rfl rfl (by (repeat constructor)) (by first | rfl | assumption), ?_⟩ | refine ⟨_, q_loadA_own rfl rfl rfl rfl (by (repeat constructor)) (by rfl), ?_⟩ | refine ⟨_, q_loadA_ext rfl rfl rfl rfl ⟨by assumption, (by first | exact id | assumption)⟩ (by rfl), ?_⟩ | refine ⟨_, q_load_ext rfl rfl rfl rfl ⟨by assumption, (by first | exact id | assumption)⟩ (by first | rfl | assumption), ?_⟩ | refine ⟨_, q_load_extb rfl rfl rfl rfl ⟨by assumption, (by first | exact id | assumption)⟩ (by rfl), ?_⟩ | refine ⟨_, q_loadA_extb rfl rfl rfl rfl ⟨by assumption, (by first | exact id | assumption)⟩ (by rfl), ?_⟩ | refine ⟨_, q_load_ext0 rfl rfl rfl rfl ⟨by assumption, (by first | exact id | assumption)⟩ (by rfl), ?_⟩) | refine jfield rfl rfl rfl rfl rfl rfl rfl rfl ?_ | (refine gcall rfl rfl ?_; first | (refine j_qc (f := 34) rfl rfl rfl rfl rfl rfl rfl ?_; refine ⟨_, (fun w' hs => ha w' (h.later hs)), ?_⟩)) | (refine j_qe rfl rfl rfl ?_; first | refine ⟨_, q_eql_nilS rfl rfl rfl rfl, ?_⟩ | refine ⟨_, q_eql_nilN rfl rfl rfl rfl, ?_⟩) | (refine j_qe rfl rfl rfl ?_; first | refine ⟨_, q_field_ext rfl rfl rfl rfl rfl, ?_⟩) | refine j_guard_undef rfl rfl rfl rfl rfl ?_) | (refine gSC ?_; first | refine sc_mv rfl ?_ | refine sc_q rfl ?_ | refine sc_region ?_) | (refine gSQ ?_; first | refine sq_go rfl ?_ | refine sq_mv rfl ?_ | refine sq_ende (by first | exact .inl rfl | exact .inr rfl) rfl rfl ⟨_, (RVs.cons (RV.tmp rfl) (RVs.cons (RV.tmp rfl) (RVs.nil))), ?_⟩) | refine j_nil ?_ | ((first | refine j_guard rfl rfl rfl rfl rfl ?_ ?_ | refine sc_cond rfl ?_ ?_) <;> intro hc <;> (first | exact absurd hc (by decide) | ((try simp only [engHC] at hc) <;> first | (exfalso; omega) | exact absurd trivial hc | skip))))
      all_goals first
        | (exfalso; omega)
        | (intro w' hS; refine ⟨?_, hS.below⟩; simp only [pack])
    · rw [if_neg hneg, decide_eq_true hneg]
      refine eng_start (n := 23) (args := [ptrV bx, strV x.path]) tab tab_ok fns fns_ok [.tmp 4, .tmp 5] Try.func15 rfl rfl rfl rfl ?_
      repeat' (first | (refine gJ ?_; first | refine js rfl rfl rfl rfl ?_ | (refine gload rfl rfl ?_; refine j_qe rfl rfl rfl ?_; first | refine ⟨_, q_load_own rfl rfl rfl rfl (by (repeat constructor)) (by first | rfl | assumption), ?_⟩ | refine ⟨_, q_loadA_own rfl rfl rfl rfl (by (repeat constructor)) (by rfl), ?_⟩ | refine ⟨_, q_loadA_ext rfl rfl rfl rfl ⟨by assumption, (by first | exact id | assumption)⟩ (by rfl), ?_⟩ | refine ⟨_, q_load_ext rfl rfl rfl rfl ⟨by assumption, (by first | exact id | assumption)⟩ (by first | rfl | assumption), ?_⟩ | refine ⟨_, q_load_extb rfl rfl rfl rfl ⟨by assumption, (by first | exact id | assumption)⟩ (by rfl), ?_⟩ | refine ⟨_, q_loadA_extb rfl rfl rfl rfl ⟨by assumption, (by first | exact id | assumption)⟩ (by rfl), ?_⟩ | refine ⟨_, q_load_ext0 rfl rfl rfl rfl ⟨by assumption, (by first | exact id | assumption)⟩ (by rfl), ?_⟩) | refine jfield rfl rfl rfl rfl rfl rfl rfl rfl ?_ | (refine gcall rfl rfl ?_; first | (refine j_qc (f := 34) rfl rfl rfl rfl rfl rfl rfl ?_; refine ⟨_, (fun w' hs => ha w' (h.later hs)), ?_⟩)) | (refine j_qe rfl rfl rfl ?_; first | refine ⟨_, q_eql_nilS rfl rfl rfl rfl, ?_⟩ | refine ⟨_, q_eql_nilN rfl rfl rfl rfl, ?_⟩) | (refine j_qe rfl rfl rfl ?_; first | refine ⟨_, q_field_ext rfl rfl rfl rfl rfl, ?_⟩) | refine j_guard_undef rfl rfl rfl rfl rfl ?_) | (refine gSC ?_; first | refine sc_mv rfl ?_ | refine sc_q rfl ?_ | refine sc_region ?_) | (refine gSQ ?_; first | refine sq_go rfl ?_ | refine sq_mv rfl ?_ | refine sq_ende (by first | exact .inl rfl | exact .inr rfl) rfl rfl ⟨_, (RVs.cons (RV.tmp rfl) (RVs.cons (RV.tmp rfl) (RVs.nil))), ?_⟩) | refine j_nil ?_ | ((first | refine j_guard rfl rfl rfl rfl rfl ?_ ?_ | refine sc_cond rfl ?_ ?_) <;> intro hc <;> (first | exact absurd hc (by decide) | ((try simp only [engHC] at hc) <;> first | (exfalso; omega) | exact absurd trivial hc | skip))))
      all_goals first
        | (exfalso; omega)
        | (intro w' hS; refine ⟨?_, hS.below⟩; simp only [pack])
  · rw [hnx] at ha
    have hneg : wno W s < 0 := by
      rcases wno_spec W s with ⟨h1, _⟩ | ⟨k, _, hk⟩
      · omega
      · obtain ⟨y, hy, e⟩ := h.aw.wd s (List.mem_of_getElem? hk)
        exact absurd e (hno y hy)
    rw [if_pos hneg, decide_eq_false (fun e => e hneg)]
    refine eng_start (n := 23) (args := [ptrV bx, strV s]) tab tab_ok fns fns_ok [.tmp 4, .tmp 5] Try.func15 rfl rfl rfl rfl ?_
    repeat' (first | (refine gJ ?_; first | refine js rfl rfl rfl rfl ?_ | (refine gload rfl rfl ?_; refine j_qe rfl rfl rfl ?_; first | refine ⟨_, q_load_own rfl rfl rfl rfl (by (repeat constructor)) (by first | rfl | assumption), ?_⟩ | refine ⟨_, q_loadA_own rfl rfl rfl rfl (by (repeat constructor)) (by rfl), ?_⟩ | refine ⟨_, q_loadA_ext rfl rfl rfl rfl ⟨by assumption, (by first | exact id | assumption)⟩ (by rfl), ?_⟩ | refine ⟨_, q_load_ext rfl rfl rfl rfl ⟨by assumption, (by first | exact id | assumption)⟩ (by first | rfl | assumption), ?_⟩ | refine ⟨_, q_load_extb rfl rfl rfl rfl ⟨by assumption, (by first | exact id | assumption)⟩ (by rfl), ?_⟩ | refine ⟨_, q_loadA_extb rfl rfl rfl rfl ⟨by assumption, (by first | exact id | assumption)⟩ (by rfl), ?_⟩ | refine ⟨_, q_load_ext0 rfl rfl rfl rfl ⟨by assumption, (by first | exact id | assumption)⟩ (by rfl), ?_⟩) | refine jfield rfl rfl rfl rfl rfl rfl rfl rfl ?_ | (refine gcall rfl rfl ?_; first | (refine j_qc (f := 34) rfl rfl rfl rfl rfl rfl rfl ?_; refine ⟨_, (fun w' hs => ha w' (h.later hs)), ?_⟩)) | (refine j_qe rfl rfl rfl ?_; first | refine ⟨_, q_eql_nilS rfl rfl rfl rfl, ?_⟩ | refine ⟨_, q_eql_nilN rfl rfl rfl rfl, ?_⟩) | (refine j_qe rfl rfl rfl ?_; first | refine ⟨_, q_field_ext rfl rfl rfl rfl rfl, ?_⟩) | refine j_guard_undef rfl rfl rfl rfl rfl ?_) | (refine gSC ?_; first | refine sc_mv rfl ?_ | refine sc_q rfl ?_ | refine sc_region ?_) | (refine gSQ ?_; first | refine sq_go rfl ?_ | refine sq_mv rfl ?_ | refine sq_ende (by first | exact .inl rfl | exact .inr rfl) rfl rfl ⟨_, (RVs.cons (RV.tmp rfl) (RVs.cons (RV.tmp rfl) (RVs.nil))), ?_⟩) | refine j_nil ?_ | ((first | refine j_guard rfl rfl rfl rfl rfl ?_ ?_ | refine sc_cond rfl ?_ ?_) <;> intro hc <;> (first | exact absurd hc (by decide) | ((try simp only [engHC] at hc) <;> first | (exfalso; omega) | exact absurd trivial hc | skip))))
    all_goals first
      | (exfalso; omega)
      | (intro w' hS; refine ⟨?_, hS.below⟩; simp only [pack])
set_option maxRecDepth 4000 in
theorem Word_c (h : LX w W bx rb rm A0 c0 ar) (i : Int) : Calls Try.prog 16 #[ptrV bx, .int .i64 i] w fun e w' => e = .returned (.tuple #[strV (if i < 0 then [] else W.getD i.toNat []), .bool (decide (0 ≤ i ∧ i.toNat < W.length))]) ∧ Below w.heap.size w w' := by
  have hT := h.top
  have hr := fun (w' : World) (hl : LX w' W bx rb rm A0 c0 ar) => rightL_c hl
  by_cases hi : 0 ≤ i ∧ i.toNat < W.length
  · rw [decide_eq_true hi]
    obtain ⟨u, hu⟩ : ∃ u, W[i.toNat]? = some u := ⟨_, List.getElem?_eq_getElem hi.2⟩
    have e : (if i < 0 then [] else W.getD i.toNat []) = u := by rw [if_neg (by omega), List.getD_eq_getElem?_getD, hu]; rfl
    rw [e]
    obtain ⟨ad, rfl, hX⟩ := h.ws _ _ hu
    have hsl := h.sl
    obtain ⟨j, rfl⟩ : ∃ j : Nat, i = j := ⟨i.toNat, by omega⟩
    rw [Int.toNat_natCast] at hu hi hX
    refine eng_start (n := 29) (args := [ptrV bx, .int .i64 (j : Int)]) tab tab_ok fns fns_ok [.tmp 4, .tmp 5] Try.func16 rfl rfl rfl rfl ?_
    repeat' (first | (refine gJ ?_; first | refine js rfl rfl rfl rfl ?_ | (refine gload rfl rfl ?_; refine j_qe rfl rfl rfl ?_; first | refine ⟨_, q_load_own rfl rfl rfl rfl (by (repeat constructor)) (by first | rfl | assumption), ?_⟩ | refine ⟨_, q_loadA_own rfl rfl rfl rfl (by (repeat constructor)) (by rfl), ?_⟩ | refine ⟨_, q_loadA_ext rfl rfl rfl rfl ⟨by assumption, (by first | exact id | assumption)⟩ (by rfl), ?_⟩ | refine ⟨_, q_load_ext rfl rfl rfl rfl ⟨by assumption, (by first | exact id | assumption)⟩ (by first | rfl | assumption), ?_⟩ | refine ⟨_, q_load_extb rfl rfl rfl rfl ⟨by assumption, (by first | exact id | assumption)⟩ (by rfl), ?_⟩ | refine ⟨_, q_loadA_extb rfl rfl rfl rfl ⟨by assumption, (by first | exact id | assumption)⟩ (by rfl), ?_⟩ | refine ⟨_, q_load_ext0 rfl rfl rfl rfl ⟨by assumption, (by first | exact id | assumption)⟩ (by rfl), ?_⟩) | refine jfield rfl rfl rfl rfl rfl rfl rfl rfl ?_ | (refine gcall rfl rfl ?_; first | (refine j_qc (f := 23) rfl rfl rfl rfl rfl rfl rfl ?_; refine ⟨_, (fun w' hs => hr w' (h.later hs)), ?_⟩)) | (refine j_qe rfl rfl rfl ?_; first | refine ⟨_, q_index_nat rfl rfl rfl rfl rfl (by omega), ?_⟩ | refine ⟨_, q_index_slice rfl rfl rfl rfl rfl (by omega), ?_⟩ | refine ⟨_, q_index_arr rfl rfl rfl rfl rfl (by omega), ?_⟩ | refine ⟨_, q_index_arr_ext rfl rfl rfl rfl rfl (by omega), ?_⟩ | refine ⟨_, q_len_slice rfl rfl rfl rfl, ?_⟩ | refine ⟨_, q_field_ext rfl rfl rfl rfl rfl, ?_⟩) | refine j_guard_undef rfl rfl rfl rfl rfl ?_) | (refine gSC ?_; first | refine sc_mv rfl ?_ | refine sc_q rfl ?_ | refine sc_region ?_) | (refine gSQ ?_; first | refine sq_go rfl ?_ | refine sq_mv rfl ?_ | refine sq_ende (by first | exact .inl rfl | exact .inr rfl) rfl rfl ⟨_, (RVs.cons (RV.tmp rfl) (RVs.cons (RV.tmp rfl) (RVs.nil))), ?_⟩) | refine j_nil ?_ | ((first | refine j_guard rfl rfl rfl rfl rfl ?_ ?_ | refine sc_cond rfl ?_ ?_) <;> intro hc <;> (first | exact absurd hc (by decide) | ((try simp only [engHC] at hc) <;> first | (exfalso; omega) | exact absurd trivial hc | skip))))
    all_goals first
      | (exfalso; omega)
      | (intro w' hS; refine ⟨?_, hS.below⟩; simp only [pack])
      | trace_state
  · rw [decide_eq_false hi]
    have e : (if i < 0 then [] else W.getD i.toNat []) = [] := by
      split
      · rfl
      · rw [List.getD_eq_getElem?_getD, List.getElem?_eq_none (by omega)]; rfl
    rw [e]
    refine eng_start (n := 29) (args := [ptrV bx, .int .i64 i]) tab tab_ok fns fns_ok [.tmp 4, .tmp 5] Try.func16 rfl rfl rfl rfl ?_
    repeat' (first | (refine gJ ?_; first | refine js rfl rfl rfl rfl ?_ | (refine gload rfl rfl ?_; refine j_qe rfl rfl rfl ?_; first | refine ⟨_, q_load_own rfl rfl rfl rfl (by (repeat constructor)) (by first | rfl | assumption), ?_⟩ | refine ⟨_, q_loadA_own rfl rfl rfl rfl (by (repeat constructor)) (by rfl), ?_⟩ | refine ⟨_, q_loadA_ext rfl rfl rfl rfl ⟨by assumption, (by first | exact id | assumption)⟩ (by rfl), ?_⟩ | refine ⟨_, q_load_ext rfl rfl rfl rfl ⟨by assumption, (by first | exact id | assumption)⟩ (by first | rfl | assumption), ?_⟩ | refine ⟨_, q_load_extb rfl rfl rfl rfl ⟨by assumption, (by first | exact id | assumption)⟩ (by rfl), ?_⟩ | refine ⟨_, q_loadA_extb rfl rfl rfl rfl ⟨by assumption, (by first | exact id | assumption)⟩ (by rfl), ?_⟩ | refine ⟨_, q_load_ext0 rfl rfl rfl rfl ⟨by assumption, (by first | exact id | assumption)⟩ (by rfl), ?_⟩) | refine jfield rfl rfl rfl rfl rfl rfl rfl rfl ?_ | (refine gcall rfl rfl ?_; first | (refine j_qc (f := 23) rfl rfl rfl rfl rfl rfl rfl ?_; refine ⟨_, (fun w' hs => hr w' (h.later hs)), ?_⟩)) | (refine j_qe rfl rfl rfl ?_; first | refine ⟨_, q_index_nat rfl rfl rfl rfl rfl (by omega), ?_⟩ | refine ⟨_, q_index_slice rfl rfl rfl rfl rfl (by omega), ?_⟩ | refine ⟨_, q_index_arr rfl rfl rfl rfl rfl (by omega), ?_⟩ | refine ⟨_, q_index_arr_ext rfl rfl rfl rfl rfl (by omega), ?_⟩ | refine ⟨_, q_len_slice rfl rfl rfl rfl, ?_⟩ | refine ⟨_, q_field_ext rfl rfl rfl rfl rfl, ?_⟩) | refine j_guard_undef rfl rfl rfl rfl rfl ?_) | (refine gSC ?_; first | refine sc_mv rfl ?_ | refine sc_q rfl ?_ | refine sc_region ?_) | (refine gSQ ?_; first | refine sq_go rfl ?_ | refine sq_mv rfl ?_ | refine sq_ende (by first | exact .inl rfl | exact .inr rfl) rfl rfl ⟨_, (RVs.cons (RV.tmp rfl) (RVs.cons (RV.tmp rfl) (RVs.nil))), ?_⟩) | refine j_nil ?_ | ((first | refine j_guard rfl rfl rfl rfl rfl ?_ ?_ | refine sc_cond rfl ?_ ?_) <;> intro hc <;> (first | exact absurd hc (by decide) | ((try simp only [engHC] at hc) <;> first | (exfalso; omega) | exact absurd trivial hc | skip))))
    all_goals first
      | (exfalso; omega)
      | (intro w' hS; refine ⟨?_, hS.below⟩; simp only [pack])
      | trace_state
end
end Go.Proofs.Ytagndgidfaladaa
