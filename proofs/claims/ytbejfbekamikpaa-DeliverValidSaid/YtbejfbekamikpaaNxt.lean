/-
  deliver: Next.
-/
import Derived.Test.YtbejfbekamikpaaMaps2
namespace Go.Proofs.Ytbejfbekamikpaa
open Go.RowKit Eng
set_option linter.unusedVariables false
set_option linter.unusedSimpArgs false
set_option maxHeartbeats 8000000
attribute [local irreducible] SC SQ J Qt Calls Iterates LSub FSub
section
variable {C : Cx} {F : Fr} {L : List HA} {o : Oper} {K : List KI} {ops : Array Oper} {m : Bool} {rest : List Oper}
theorem q_min {x y : Operand} {t u : TypeId} {k : IntKind} {a b : Int} (ho : o.op = .call { callee := .builtin .min, args := #[x, y], argTypes := #[t, u] }) (hx : ev F x = some (.int k a)) (hy : ev F y = some (.int k b)) : Qv C o F L (.int k (if b < a then b else a)) :=
  .of_run fun ac w hf hs => by
    simp [execOp, ho, resolve, invoke, builtin, Builtin.min_, Builtin.min2, hf.ev hx, hf.ev hy]
attribute [local semireducible] SC J
theorem j_perm {l : List Oper} {L' : List HA} (hp : L.Perm L') (h : J C ops false l K F L') : J C ops false l K F L := fun a w hf hs => h a w hf (hs.perm hp)
/-- What an own row's value looks like. -/
theorem j_own {l : List Oper} {v : Value} {e sz n : Nat} {xs : List Value} (hin : InL L (.own v e sz n xs)) (h : ∀ A c, v = .slice A n c → J C ops false l K F L) : J C ops false l K F L := fun a w hf hs => by
  have hA := hs.at hin
  rcases hA.2.2 with ⟨rfl, hn⟩ | ⟨g, cap, cur, hv, _⟩
  · exact h none 0 (by rw [hn]) a w hf hs
  · exact h _ cap hv a w hf hs
end
theorem flat_get {α : Type} (f : α → List Value) (sz : Nat) (hf : ∀ x, (f x).length = sz) : ∀ (l : List α) (i : Nat) (x : α) (j : Nat) (v : Value), l[i]? = some x → (f x)[j]? = some v → (l.flatMap f)[i * sz + j]? = some v
  | [], i, x, j, v, h, _ => by simp at h
  | y :: l, 0, x, j, v, h, hj => by
    simp at h
    subst h
    simp only [List.flatMap_cons, Nat.zero_mul, Nat.zero_add]
    rw [List.getElem?_append_left]
    · exact hj
    · exact (List.getElem?_eq_some_iff.1 hj).1
  | y :: l, i + 1, x, j, v, h, hj => by
    have ih := flat_get f sz hf l i x j v (by simpa using h) hj
    simp only [List.flatMap_cons]
    rw [List.getElem?_append_right (by rw [hf, Nat.succ_mul]; omega), hf]
    rw [show (i + 1) * sz + j - sz = i * sz + j from by rw [Nat.succ_mul]; omega]
    exact ih
theorem nth_get : ∀ (l : List Value) (j : Nat), nth l j = l[j]?
  | [], j => by cases j <;> rfl
  | x :: l, 0 => rfl
  | x :: l, j + 1 => by simpa [nth] using nth_get l j
/-- What is read of an own row. -/
theorem rs_of_own {w0 w : World} {hot : Nat → Prop} {L : List HA} {α : Type} {f : α → List Value} {e sz : Nat} {A : Option Addr} {c : Nat} {l : List α} (hs : St w0 hot L w) (hf : ∀ x, (f x).length = sz) (hin : InL L (.own (.slice A l.length c) e sz l.length (l.flatMap f))) : RS w sz f A l := fun i x hx => by
  have hA := hs.at hin
  have hil := (List.getElem?_eq_some_iff.1 hx).1
  rcases hA.2.2 with ⟨_, hn⟩ | ⟨g, cap, cur, hv, _, hg, hcap, _, hsz, htk⟩
  · omega
  · injection hv with h1 h2 h3
    subst h1
    refine ⟨_, rfl, by rw [block_add]; exact (Array.getElem?_eq_some_iff.1 hg).1, fun j u hu => ?_⟩
    rw [nth_get] at hu
    have hfl := flat_get f sz hf l i x j u hx hu
    rw [← htk] at hfl
    have hlt := (List.getElem?_eq_some_iff.1 hfl).1
    rw [List.getElem?_take] at hfl
    split at hfl
    · rw [Array.getElem?_toList] at hfl
      rw [add_own, add_own, Nat.zero_add]
      simp only [World.cell?, hg]
      simpa using hfl
    · cases hfl
theorem ownF_filter (l : List Ru) (t k : Int) : ownF (l.filter fun x => decide (x.pt = t)) t k = ownF l t k := by
  simp only [ownF, List.filter_filter]
  congr 1
  funext x
  simp only [isR]
  cases decide (x.pt = t) <;> simp
theorem statusF_own (p : Pt) (l : List Ru) (hol : List Int) (d : Int) : statusF p (l.filter fun x => decide (x.pt = p.id)) hol d = statusF p l hol d := by
  simp only [statusF, ownF_filter]
theorem find_id : ∀ {pts : List Pt} {t : Int} {p : Pt}, findP pts t = some p → p.id = t
  | [], t, p, h => by simp [findP] at h
  | q :: pts, t, p, h => by
    simp only [findP] at h
    split at h
    · rename_i hq
      simp only [Option.some.injEq] at h
      subst h; exact hq
    · exact find_id h
def firstOpen (p : Pt) (l : List Ru) (hol : List Int) : Nat → Int → Option Int
  | 0, _ => none
  | n + 1, d => if statusF p l hol d = 1 then some d else firstOpen p l hol n (d + 1)
def lastF (d : Int) : Int := if 730484 < d + 800 then 730484 else d + 800
/-- What Next answers. -/
def nextF (pts : List Pt) (l : List Ru) (hol : List Int) (t d : Int) : Int × Bool × Int :=
  if checkF hol d ≠ 0 then (0, false, checkF hol d) else match findP pts t with
    | none => (0, false, 0)
    | some p => match firstOpen p l hol (lastF d - d + 1).toNat d with
      | some x => (x, true, 0)
      | none => (0, false, 0)
abbrev bpV (x : Nat × List (Int × Row)) : Value := .map (some x.1)
abbrev bpL (x : Nat × List (Int × Row)) : List HA := haMap x.1 .i64 (valsG rowV x.2) :: rowsH x.2
theorem rowsH_plain : ∀ M : List (Int × Row), plainHA (rowsH M)
  | [] => trivial
  | _ :: M => rowsH_plain M
theorem bpL_plain (x : Nat × List (Int × Row)) : plainHA (bpL x) :=
  ⟨fun u u' ⟨o, h1, h2⟩ hk => ⟨o, (hk _ rfl).trans h1, h2⟩, rowsH_plain x.2⟩
theorem bp_cases {l : List Ru} {M : List (Int × Row)} (h : bpI l M) (t : Int) :
    (mlk (valsG rowV M) t = none ∧ (l.filter fun x => decide (x.pt = t)) = []) ∨
    ∃ v M1 M2, M = M1 ++ (t, (v, l.filter fun x => decide (x.pt = t))) :: M2 ∧ mlk (valsG rowV M) t = some v := by
  have hk := h t
  have hv := mlk_vals rowV M t
  cases hq : lkG M t with
  | none => rw [hq] at hk hv; exact .inl ⟨hv, hk.symm⟩
  | some q =>
    rw [hq] at hk hv
    obtain ⟨v, rs⟩ := q
    obtain ⟨M1, M2, rfl, h1⟩ := lkG_split hq
    simp only [Option.map_some, Option.getD_some] at hk
    subst hk
    exact .inr ⟨v, M1, M2, rfl, hv⟩
theorem bp_perm0 {x : HA} {R L0 : List HA} : (x :: R ++ L0).Perm (x :: (L0 ++ R)) := by
  simp only [List.cons_append]
  exact List.Perm.cons _ List.perm_append_comm
theorem bp_perm1 {x : HA} {t : Int} {v : Value} {rs : List Ru} {M1 M2 : List (Int × Row)} {L0 : List HA} : (x :: rowsH (M1 ++ (t, (v, rs)) :: M2) ++ L0).Perm (.own v 37 5 rs.length (rs.flatMap ruC) :: x :: (L0 ++ (rowsH M1 ++ rowsH M2))) := by
  simp only [rowsH, List.map_append, List.map_cons, List.cons_append]
  refine (List.Perm.cons x ?_).trans (List.Perm.swap _ _ _)
  refine ((List.perm_middle).append_right L0).trans ?_
  simp only [List.cons_append]
  exact List.Perm.cons _ List.perm_append_comm
theorem first_step (p : Pt) (l : List Ru) (hol : List Int) (d : Int) (N k : Nat) (hk : k < N) : firstOpen p l hol (N - k) (d + k) = if statusF p l hol (d + k) = 1 then some (d + k) else firstOpen p l hol (N - (k + 1)) (d + (k + 1 : Nat)) := by
  obtain ⟨m, hm⟩ : ∃ m, N - k = m + 1 := ⟨N - k - 1, by omega⟩
  rw [hm, show N - (k + 1) = m from by omega]
  simp only [firstOpen]
  rw [show d + (k : Int) + 1 = d + ((k + 1 : Nat) : Int) from by omega]
theorem Next_c (v1 v2 v3 : Value) (P : Option Addr) (pc : Nat) (pts : List Pt) (A : Option Addr) (c : Nat) (l : List Ru) (B : Option Addr) (bc : Nat) (hol : List Int) (t d : Int) (w : World) (g1 : v1.oneCell' = true) (g2 : v2.oneCell' = true) (g3 : v3.oneCell' = true) (hpl : pts.length ≤ 9223372036854775807) (hP : RS w 8 ptC P pts)
    (hl : l.length ≤ 1000000) (hok : ∀ x ∈ l, ruOk x) (h : RS w 5 ruC A l) (hhl : hol.length ≤ 9223372036854775807) (hH : RS w 1 intC B hol) :
    Calls Try.prog 17 #[refV v1 v2 v3 P pts.length pc, .slice A l.length c, .slice B hol.length bc, .int .i64 t, .int .i64 d] w fun e w' => e = .returned (.tuple #[.int .i64 (nextF pts l hol t d).1, .bool (nextF pts l hol t d).2.1, .int .i64 (nextF pts l hol t d).2.2]) ∧ Below w.heap.size w w' := by
  by_cases hck : checkF hol d = 0
  · obtain ⟨hr, h0, h1⟩ := check_zero hck
    simp only [nextF, hck, ne_eq, not_true, if_false]
    cases hf : findP pts t with
    | none =>
      refine eng_start (n := 53) (args := [refV v1 v2 v3 P pts.length pc, .slice A l.length c, .slice B hol.length bc, .int .i64 t, .int .i64 d]) tab tab_ok fns fns_ok [.tmp 10, .tmp 11, .tmp 12] Try.func17 rfl rfl rfl rfl ?_
      repeat' (first | (refine gJ ?_; first | refine js rfl rfl rfl rfl ?_ | (refine gload rfl rfl ?_; refine j_qe rfl rfl rfl ?_; first | refine ⟨_, q_load_own rfl rfl rfl rfl (by (repeat constructor)) (by first | rfl | assumption), ?_⟩ | refine ⟨_, q_loadA_own rfl rfl rfl rfl (by (repeat constructor)) (by rfl), ?_⟩ | refine ⟨_, q_loadA_ext rfl rfl rfl rfl ⟨by assumption, (by first | exact id | assumption)⟩ (by rfl), ?_⟩ | refine ⟨_, q_load_ext rfl rfl rfl rfl ⟨by assumption, (by first | exact id | assumption)⟩ (by first | rfl | assumption), ?_⟩ | refine ⟨_, q_load_extb rfl rfl rfl rfl ⟨by assumption, (by first | exact id | assumption)⟩ (by rfl), ?_⟩ | refine ⟨_, q_loadA_extb rfl rfl rfl rfl ⟨by assumption, (by first | exact id | assumption)⟩ (by rfl), ?_⟩ | refine ⟨_, q_load_ext0 rfl rfl rfl rfl ⟨by assumption, (by first | exact id | assumption)⟩ (by rfl), ?_⟩) | refine jar rfl rfl rfl rfl rfl rfl rfl (by omega) ?_ | (refine gcall rfl rfl ?_; first | (refine j_qc (f := 33) rfl rfl rfl rfl rfl rfl rfl ?_; refine ⟨_, (fun w' hs => hck ▸ check_c B bc hol d w' hhl (hH.st hs)), ?_⟩) | (refine j_qc (f := 34) rfl rfl rfl rfl rfl rfl rfl ?_; refine ⟨_, (fun w' hs => by have h9 := point_c v1 v2 v3 P pc t pts w' hpl (hP.st hs) g1 g2 g3; rw [hf] at h9; exact h9), ?_⟩)) | (refine gF ?_; first | refine j_store rfl rfl rfl rfl rfl rfl rfl rfl (by (repeat constructor)) (by rfl) ?_ | (refine j_alloc rfl rfl rfl rfl rfl ?_; intro b) | (refine j_box rfl rfl rfl rfl rfl ?_; intro b)) | (refine j_qe rfl rfl rfl ?_; first | refine ⟨_, q_addu8 rfl rfl rfl (by omega), ?_⟩)) | (refine gSC ?_; first | refine sc_mv rfl ?_ | refine sc_q rfl ?_ | refine sc_region ?_) | (refine gSQ ?_; first | refine sq_go rfl ?_ | refine sq_mv rfl ?_ | refine sq_ende (by first | exact .inl rfl | exact .inr rfl) rfl rfl ⟨_, (RVs.cons (RV.tmp rfl) (RVs.cons (RV.tmp rfl) (RVs.cons (RV.tmp rfl) (RVs.nil)))), ?_⟩) | refine j_nil ?_ | ((refine sc_cond rfl ?_ ?_) <;> intro hc <;> (first | exact absurd hc (by decide) | ((try simp only [engHC] at hc) <;> first | (exfalso; omega) | exact absurd trivial hc | skip))))
      all_goals first | (revert hc; simp; done) | ((intro w' hS; refine ⟨?_, hS.below⟩; simp only [pack]); done) | ((intro w' hS; refine ⟨?_, hS.below⟩; simp only [pack]); rfl)
    | some p =>
      have hid : p.id = t := find_id hf
      refine eng_start (n := 53) (args := [refV v1 v2 v3 P pts.length pc, .slice A l.length c, .slice B hol.length bc, .int .i64 t, .int .i64 d]) tab tab_ok fns fns_ok [.tmp 10, .tmp 11, .tmp 12] Try.func17 rfl rfl rfl rfl ?_
      repeat' (first | (refine gJ ?_; first | refine js rfl rfl rfl rfl ?_ | (refine gload rfl rfl ?_; refine j_qe rfl rfl rfl ?_; first | refine ⟨_, q_load_own rfl rfl rfl rfl (by (repeat constructor)) (by first | rfl | assumption), ?_⟩ | refine ⟨_, q_loadA_own rfl rfl rfl rfl (by (repeat constructor)) (by rfl), ?_⟩ | refine ⟨_, q_loadA_ext rfl rfl rfl rfl ⟨by assumption, (by first | exact id | assumption)⟩ (by rfl), ?_⟩ | refine ⟨_, q_load_ext rfl rfl rfl rfl ⟨by assumption, (by first | exact id | assumption)⟩ (by first | rfl | assumption), ?_⟩ | refine ⟨_, q_load_extb rfl rfl rfl rfl ⟨by assumption, (by first | exact id | assumption)⟩ (by rfl), ?_⟩ | refine ⟨_, q_loadA_extb rfl rfl rfl rfl ⟨by assumption, (by first | exact id | assumption)⟩ (by rfl), ?_⟩ | refine ⟨_, q_load_ext0 rfl rfl rfl rfl ⟨by assumption, (by first | exact id | assumption)⟩ (by rfl), ?_⟩) | refine jar rfl rfl rfl rfl rfl rfl rfl (by omega) ?_ | (refine gcall rfl rfl ?_; first | (refine j_qc (f := 33) rfl rfl rfl rfl rfl rfl rfl ?_; refine ⟨_, (fun w' hs => hck ▸ check_c B bc hol d w' hhl (hH.st hs)), ?_⟩) | (refine j_qc (f := 34) rfl rfl rfl rfl rfl rfl rfl ?_; refine ⟨_, (fun w' hs => by have h9 := point_c v1 v2 v3 P pc t pts w' hpl (hP.st hs) g1 g2 g3; rw [hf] at h9; exact h9), ?_⟩)) | (refine gcall rfl rfl ?_; refine gF ?_; refine j_callN (f := 35) rfl rfl rfl rfl rfl rfl rfl bpV (fun x => bpI l x.2) bpL (fun w' hs => byPoint_c A c l w' hl (h.st hs)) bpL_plain ?_; rintro ⟨bm, M⟩ hM) | (refine gF ?_; first | refine j_store rfl rfl rfl rfl rfl rfl rfl rfl (by (repeat constructor)) (by rfl) ?_ | (refine j_alloc rfl rfl rfl rfl rfl ?_; intro b) | (refine j_box rfl rfl rfl rfl rfl ?_; intro b)) | (refine j_qe rfl rfl rfl ?_; first | refine ⟨_, q_addu8 rfl rfl rfl (by omega), ?_⟩)) | (refine gSC ?_; first | refine sc_mv rfl ?_ | refine sc_q rfl ?_ | refine sc_region ?_) | (refine gSQ ?_; first | refine sq_go rfl ?_ | refine sq_mv rfl ?_ | refine sq_ende (by first | exact .inl rfl | exact .inr rfl) rfl rfl ⟨_, (RVs.cons (RV.tmp rfl) (RVs.cons (RV.tmp rfl) (RVs.cons (RV.tmp rfl) (RVs.nil)))), ?_⟩) | refine j_nil ?_ | ((refine sc_cond rfl ?_ ?_) <;> intro hc <;> (first | exact absurd hc (by decide) | ((try simp only [engHC] at hc) <;> first | (exfalso; omega) | exact absurd trivial hc | skip))))
      · revert hc; simp
      · obtain ⟨N, hN⟩ : ∃ N : Nat, (lastF d - d + 1).toNat = N := ⟨_, rfl⟩
        have hlast : lastF d = if 730484 < d + 800 then 730484 else d + 800 := rfl
        have hlb : d ≤ lastF d ∧ lastF d ≤ 730484 := by rw [hlast]; split <;> omega
        dsimp only at hM
        simp only [hN]
        rcases bp_cases hM t with ⟨hmv, hnil⟩ | ⟨v, M1, M2, rfl, hmv⟩
        · refine j_perm bp_perm0 ?_
          generalize rowsH M = T
          repeat' (first | (refine gJ ?_; first | refine js rfl rfl rfl rfl ?_ | (refine gload rfl rfl ?_; refine j_qe rfl rfl rfl ?_; first | refine ⟨_, q_load_own rfl rfl rfl rfl (by (repeat constructor)) (by first | rfl | assumption), ?_⟩ | refine ⟨_, q_loadA_own rfl rfl rfl rfl (by (repeat constructor)) (by rfl), ?_⟩ | refine ⟨_, q_loadA_ext rfl rfl rfl rfl ⟨by assumption, (by first | exact id | assumption)⟩ (by rfl), ?_⟩ | refine ⟨_, q_load_ext rfl rfl rfl rfl ⟨by assumption, (by first | exact id | assumption)⟩ (by first | rfl | assumption), ?_⟩ | refine ⟨_, q_load_extb rfl rfl rfl rfl ⟨by assumption, (by first | exact id | assumption)⟩ (by rfl), ?_⟩ | refine ⟨_, q_loadA_extb rfl rfl rfl rfl ⟨by assumption, (by first | exact id | assumption)⟩ (by rfl), ?_⟩ | refine ⟨_, q_load_ext0 rfl rfl rfl rfl ⟨by assumption, (by first | exact id | assumption)⟩ (by rfl), ?_⟩) | refine jar rfl rfl rfl rfl rfl rfl rfl (by omega) ?_ | (refine j_qe rfl rfl rfl ?_; refine ⟨_, q_lookup (v := .slice none 0 0) rfl rfl rfl rfl rfl rfl rfl rfl (by (repeat constructor)) (by first | (rw [hmv]; done) | (rw [hmv]; rfl)), ?_⟩) | (refine j_qe rfl rfl rfl ?_; refine ⟨_, q_min rfl rfl rfl, ?_⟩; rw [← hlast]) | (refine gF ?_; first | refine j_store rfl rfl rfl rfl rfl rfl rfl rfl (by (repeat constructor)) (by rfl) ?_ | (refine j_alloc rfl rfl rfl rfl rfl ?_; intro b) | (refine j_box rfl rfl rfl rfl rfl ?_; intro b)) | (refine j_qe rfl rfl rfl ?_; first | refine ⟨_, q_addu8 rfl rfl rfl (by omega), ?_⟩)) | (refine gSC ?_; first | refine sc_mv rfl ?_ | refine sc_q rfl ?_ | refine sc_region ?_) | (refine gSQ ?_; first | refine sq_go rfl ?_ | refine sq_mv rfl ?_ | refine sq_ende (by first | exact .inl rfl | exact .inr rfl) rfl rfl ⟨_, (RVs.cons (RV.tmp rfl) (RVs.cons (RV.tmp rfl) (RVs.cons (RV.tmp rfl) (RVs.nil)))), ?_⟩) | refine j_nil ?_ | ((refine sc_cond rfl ?_ ?_) <;> intro hc <;> (first | exact absurd hc (by decide) | ((try simp only [engHC] at hc) <;> first | (exfalso; omega) | exact absurd trivial hc | skip))))
          refine sc_loop (ι := Nat) (fun k => k ≤ N ∧ firstOpen p l hol N d = firstOpen p l hol (N - k) (d + k)) (fun k => N + 1 - k) (fun k => [(2, .slice B hol.length bc), (14, .pointer (some ⟨b, 0, none⟩)), (16, .slice none ([] : List Ru).length 0), (17, .int .i64 (lastF d)), (18, .int .i64 (d + (k : Int)))]) (fun _ => [.cells b 39 (ptC p)]) 0 ⟨by omega, by simp⟩ (by repeat (first | exact FSub.nil | refine FSub.cons rfl ?_ | refine FSub.conse rfl (by congr 1; omega) ?_)) (by repeat (first | exact LSub.nil | refine LSub.cons (by repeat (first | exact Rem.here | apply Rem.there)) ?_)) ?_
          intro k ⟨hk, hfo⟩
          have hst : statusF p ([] : List Ru) hol (d + k) = statusF p l hol (d + k) := by have := statusF_own p l hol (d + k); rw [hid, hnil] at this; exact this
          by_cases hlt : k < N
          · rw [first_step p l hol d N k hlt] at hfo
            repeat' (first | (refine gJ ?_; first | refine js rfl rfl rfl rfl ?_ | (refine gload rfl rfl ?_; refine j_qe rfl rfl rfl ?_; first | refine ⟨_, q_load_own rfl rfl rfl rfl (by (repeat constructor)) (by first | rfl | assumption), ?_⟩ | refine ⟨_, q_loadA_own rfl rfl rfl rfl (by (repeat constructor)) (by rfl), ?_⟩ | refine ⟨_, q_loadA_ext rfl rfl rfl rfl ⟨by assumption, (by first | exact id | assumption)⟩ (by rfl), ?_⟩ | refine ⟨_, q_load_ext rfl rfl rfl rfl ⟨by assumption, (by first | exact id | assumption)⟩ (by first | rfl | assumption), ?_⟩ | refine ⟨_, q_load_extb rfl rfl rfl rfl ⟨by assumption, (by first | exact id | assumption)⟩ (by rfl), ?_⟩ | refine ⟨_, q_loadA_extb rfl rfl rfl rfl ⟨by assumption, (by first | exact id | assumption)⟩ (by rfl), ?_⟩ | refine ⟨_, q_load_ext0 rfl rfl rfl rfl ⟨by assumption, (by first | exact id | assumption)⟩ (by rfl), ?_⟩) | refine jar rfl rfl rfl rfl rfl rfl rfl (by omega) ?_ | (refine gcall rfl rfl ?_; first | (refine j_qc (f := 36) rfl rfl rfl rfl rfl rfl rfl ?_; refine ⟨_, (fun w' hs => by have h9 := status_c p none 0 ([] : List Ru) B bc hol (d + k) w' (by first | omega | (simp; done)) (fun x hx => by cases hx) RS.nil (by omega) (by omega) (right_len hr) (hH.st hs) (right_sorted hr); rw [hst] at h9; exact h9), ?_⟩)) | (refine gF ?_; first | refine j_store rfl rfl rfl rfl rfl rfl rfl rfl (by (repeat constructor)) (by rfl) ?_ | (refine j_alloc rfl rfl rfl rfl rfl ?_; intro b) | (refine j_box rfl rfl rfl rfl rfl ?_; intro b)) | (refine j_qe rfl rfl rfl ?_; first | refine ⟨_, q_addu8 rfl rfl rfl (by omega), ?_⟩)) | (refine gSC ?_; first | refine sc_mv rfl ?_ | refine sc_q rfl ?_ | refine sc_region ?_) | (refine gSQ ?_; first | refine sq_go rfl ?_ | refine sq_mv rfl ?_ | refine sq_ende (by first | exact .inl rfl | exact .inr rfl) rfl rfl ⟨_, (RVs.cons (RV.tmp rfl) (RVs.cons (RV.tmp rfl) (RVs.cons (RV.tmp rfl) (RVs.nil)))), ?_⟩) | refine j_nil ?_ | ((refine sc_cond rfl ?_ ?_) <;> intro hc <;> (first | exact absurd hc (by decide) | ((try simp only [engHC] at hc) <;> first | (exfalso; omega) | exact absurd trivial hc | skip))))
            · rw [if_pos (by assumption)] at hfo
              rw [hfo]
              (intro w' hS; refine ⟨?_, hS.below⟩; simp only [pack])
            · rw [if_neg (by assumption)] at hfo
              refine sq_loop (k + 1) ⟨by omega, hfo⟩ (by omega) (by repeat (first | exact FSub.nil | refine FSub.cons rfl ?_ | refine FSub.conse rfl (by congr 1; omega) ?_)) (by repeat (first | exact LSub.nil | refine LSub.cons (by repeat (first | exact Rem.here | apply Rem.there)) ?_))
          · have hkN : k = N := by omega
            subst hkN
            rw [Nat.sub_self] at hfo
            repeat' (first | (refine gJ ?_; first | refine js rfl rfl rfl rfl ?_ | (refine gload rfl rfl ?_; refine j_qe rfl rfl rfl ?_; first | refine ⟨_, q_load_own rfl rfl rfl rfl (by (repeat constructor)) (by first | rfl | assumption), ?_⟩ | refine ⟨_, q_loadA_own rfl rfl rfl rfl (by (repeat constructor)) (by rfl), ?_⟩ | refine ⟨_, q_loadA_ext rfl rfl rfl rfl ⟨by assumption, (by first | exact id | assumption)⟩ (by rfl), ?_⟩ | refine ⟨_, q_load_ext rfl rfl rfl rfl ⟨by assumption, (by first | exact id | assumption)⟩ (by first | rfl | assumption), ?_⟩ | refine ⟨_, q_load_extb rfl rfl rfl rfl ⟨by assumption, (by first | exact id | assumption)⟩ (by rfl), ?_⟩ | refine ⟨_, q_loadA_extb rfl rfl rfl rfl ⟨by assumption, (by first | exact id | assumption)⟩ (by rfl), ?_⟩ | refine ⟨_, q_load_ext0 rfl rfl rfl rfl ⟨by assumption, (by first | exact id | assumption)⟩ (by rfl), ?_⟩) | refine jar rfl rfl rfl rfl rfl rfl rfl (by omega) ?_ | (refine gF ?_; first | refine j_store rfl rfl rfl rfl rfl rfl rfl rfl (by (repeat constructor)) (by rfl) ?_ | (refine j_alloc rfl rfl rfl rfl rfl ?_; intro b) | (refine j_box rfl rfl rfl rfl rfl ?_; intro b)) | (refine j_qe rfl rfl rfl ?_; first | refine ⟨_, q_addu8 rfl rfl rfl (by omega), ?_⟩)) | (refine gSC ?_; first | refine sc_mv rfl ?_ | refine sc_q rfl ?_ | refine sc_region ?_) | (refine gSQ ?_; first | refine sq_go rfl ?_ | refine sq_mv rfl ?_ | refine sq_ende (by first | exact .inl rfl | exact .inr rfl) rfl rfl ⟨_, (RVs.cons (RV.tmp rfl) (RVs.cons (RV.tmp rfl) (RVs.cons (RV.tmp rfl) (RVs.nil)))), ?_⟩) | refine j_nil ?_ | ((refine sc_cond rfl ?_ ?_) <;> intro hc <;> (first | exact absurd hc (by decide) | ((try simp only [engHC] at hc) <;> first | (exfalso; omega) | exact absurd trivial hc | skip))))
            rw [hfo]
            (intro w' hS; refine ⟨?_, hS.below⟩; simp only [pack])
            rfl
        · obtain ⟨rs, hrs⟩ : ∃ rs, (l.filter fun x => decide (x.pt = t)) = rs := ⟨_, rfl⟩
          have hrl : rs.length ≤ 1000000 := by rw [← hrs]; exact Nat.le_trans (List.length_filter_le _ _) hl
          have hrok : ∀ x ∈ rs, ruOk x := fun x hx => hok x (by rw [← hrs] at hx; exact (List.mem_filter.1 hx).1)
          simp only [hrs] at hmv hM ⊢
          refine j_perm bp_perm1 ?_
          generalize rowsH M1 ++ rowsH M2 = T
          refine j_own (by (repeat constructor)) ?_
          rintro A' c' rfl
          repeat' (first | (refine gJ ?_; first | refine js rfl rfl rfl rfl ?_ | (refine gload rfl rfl ?_; refine j_qe rfl rfl rfl ?_; first | refine ⟨_, q_load_own rfl rfl rfl rfl (by (repeat constructor)) (by first | rfl | assumption), ?_⟩ | refine ⟨_, q_loadA_own rfl rfl rfl rfl (by (repeat constructor)) (by rfl), ?_⟩ | refine ⟨_, q_loadA_ext rfl rfl rfl rfl ⟨by assumption, (by first | exact id | assumption)⟩ (by rfl), ?_⟩ | refine ⟨_, q_load_ext rfl rfl rfl rfl ⟨by assumption, (by first | exact id | assumption)⟩ (by first | rfl | assumption), ?_⟩ | refine ⟨_, q_load_extb rfl rfl rfl rfl ⟨by assumption, (by first | exact id | assumption)⟩ (by rfl), ?_⟩ | refine ⟨_, q_loadA_extb rfl rfl rfl rfl ⟨by assumption, (by first | exact id | assumption)⟩ (by rfl), ?_⟩ | refine ⟨_, q_load_ext0 rfl rfl rfl rfl ⟨by assumption, (by first | exact id | assumption)⟩ (by rfl), ?_⟩) | refine jar rfl rfl rfl rfl rfl rfl rfl (by omega) ?_ | (refine j_qe rfl rfl rfl ?_; refine ⟨_, q_lookup (v := .slice A' rs.length c') rfl rfl rfl rfl rfl rfl rfl rfl (by (repeat constructor)) (by first | (rw [hmv]; done) | (rw [hmv]; rfl)), ?_⟩) | (refine j_qe rfl rfl rfl ?_; refine ⟨_, q_min rfl rfl rfl, ?_⟩; rw [← hlast]) | (refine gF ?_; first | refine j_store rfl rfl rfl rfl rfl rfl rfl rfl (by (repeat constructor)) (by rfl) ?_ | (refine j_alloc rfl rfl rfl rfl rfl ?_; intro b) | (refine j_box rfl rfl rfl rfl rfl ?_; intro b)) | (refine j_qe rfl rfl rfl ?_; first | refine ⟨_, q_addu8 rfl rfl rfl (by omega), ?_⟩)) | (refine gSC ?_; first | refine sc_mv rfl ?_ | refine sc_q rfl ?_ | refine sc_region ?_) | (refine gSQ ?_; first | refine sq_go rfl ?_ | refine sq_mv rfl ?_ | refine sq_ende (by first | exact .inl rfl | exact .inr rfl) rfl rfl ⟨_, (RVs.cons (RV.tmp rfl) (RVs.cons (RV.tmp rfl) (RVs.cons (RV.tmp rfl) (RVs.nil)))), ?_⟩) | refine j_nil ?_ | ((refine sc_cond rfl ?_ ?_) <;> intro hc <;> (first | exact absurd hc (by decide) | ((try simp only [engHC] at hc) <;> first | (exfalso; omega) | exact absurd trivial hc | skip))))
          refine sc_loop (ι := Nat) (fun k => k ≤ N ∧ firstOpen p l hol N d = firstOpen p l hol (N - k) (d + k)) (fun k => N + 1 - k) (fun k => [(2, .slice B hol.length bc), (14, .pointer (some ⟨b, 0, none⟩)), (16, .slice A' rs.length c'), (17, .int .i64 (lastF d)), (18, .int .i64 (d + (k : Int)))]) (fun _ => [.own (.slice A' rs.length c') 37 5 rs.length (rs.flatMap ruC), .cells b 39 (ptC p)]) 0 ⟨by omega, by simp⟩ (by repeat (first | exact FSub.nil | refine FSub.cons rfl ?_ | refine FSub.conse rfl (by congr 1; omega) ?_)) (by repeat (first | exact LSub.nil | refine LSub.cons (by repeat (first | exact Rem.here | apply Rem.there)) ?_)) ?_
          intro k ⟨hk, hfo⟩
          have hst : statusF p rs hol (d + k) = statusF p l hol (d + k) := by have := statusF_own p l hol (d + k); rw [hid, hrs] at this; exact this
          by_cases hlt : k < N
          · rw [first_step p l hol d N k hlt] at hfo
            repeat' (first | (refine gJ ?_; first | refine js rfl rfl rfl rfl ?_ | (refine gload rfl rfl ?_; refine j_qe rfl rfl rfl ?_; first | refine ⟨_, q_load_own rfl rfl rfl rfl (by (repeat constructor)) (by first | rfl | assumption), ?_⟩ | refine ⟨_, q_loadA_own rfl rfl rfl rfl (by (repeat constructor)) (by rfl), ?_⟩ | refine ⟨_, q_loadA_ext rfl rfl rfl rfl ⟨by assumption, (by first | exact id | assumption)⟩ (by rfl), ?_⟩ | refine ⟨_, q_load_ext rfl rfl rfl rfl ⟨by assumption, (by first | exact id | assumption)⟩ (by first | rfl | assumption), ?_⟩ | refine ⟨_, q_load_extb rfl rfl rfl rfl ⟨by assumption, (by first | exact id | assumption)⟩ (by rfl), ?_⟩ | refine ⟨_, q_loadA_extb rfl rfl rfl rfl ⟨by assumption, (by first | exact id | assumption)⟩ (by rfl), ?_⟩ | refine ⟨_, q_load_ext0 rfl rfl rfl rfl ⟨by assumption, (by first | exact id | assumption)⟩ (by rfl), ?_⟩) | refine jar rfl rfl rfl rfl rfl rfl rfl (by omega) ?_ | (refine gcall rfl rfl ?_; first | (refine j_qc (f := 36) rfl rfl rfl rfl rfl rfl rfl ?_; refine ⟨_, (fun w' hs => by have h9 := status_c p A' c' rs B bc hol (d + k) w' (by first | omega | (simp; done)) hrok (rs_of_own hs (fun _ => rfl) (by (repeat constructor))) (by omega) (by omega) (right_len hr) (hH.st hs) (right_sorted hr); rw [hst] at h9; exact h9), ?_⟩)) | (refine gF ?_; first | refine j_store rfl rfl rfl rfl rfl rfl rfl rfl (by (repeat constructor)) (by rfl) ?_ | (refine j_alloc rfl rfl rfl rfl rfl ?_; intro b) | (refine j_box rfl rfl rfl rfl rfl ?_; intro b)) | (refine j_qe rfl rfl rfl ?_; first | refine ⟨_, q_addu8 rfl rfl rfl (by omega), ?_⟩)) | (refine gSC ?_; first | refine sc_mv rfl ?_ | refine sc_q rfl ?_ | refine sc_region ?_) | (refine gSQ ?_; first | refine sq_go rfl ?_ | refine sq_mv rfl ?_ | refine sq_ende (by first | exact .inl rfl | exact .inr rfl) rfl rfl ⟨_, (RVs.cons (RV.tmp rfl) (RVs.cons (RV.tmp rfl) (RVs.cons (RV.tmp rfl) (RVs.nil)))), ?_⟩) | refine j_nil ?_ | ((refine sc_cond rfl ?_ ?_) <;> intro hc <;> (first | exact absurd hc (by decide) | ((try simp only [engHC] at hc) <;> first | (exfalso; omega) | exact absurd trivial hc | skip))))
            · rw [if_pos (by assumption)] at hfo
              rw [hfo]
              (intro w' hS; refine ⟨?_, hS.below⟩; simp only [pack])
            · rw [if_neg (by assumption)] at hfo
              refine sq_loop (k + 1) ⟨by omega, hfo⟩ (by omega) (by repeat (first | exact FSub.nil | refine FSub.cons rfl ?_ | refine FSub.conse rfl (by congr 1; omega) ?_)) (by repeat (first | exact LSub.nil | refine LSub.cons (by repeat (first | exact Rem.here | apply Rem.there)) ?_))
          · have hkN : k = N := by omega
            subst hkN
            rw [Nat.sub_self] at hfo
            repeat' (first | (refine gJ ?_; first | refine js rfl rfl rfl rfl ?_ | (refine gload rfl rfl ?_; refine j_qe rfl rfl rfl ?_; first | refine ⟨_, q_load_own rfl rfl rfl rfl (by (repeat constructor)) (by first | rfl | assumption), ?_⟩ | refine ⟨_, q_loadA_own rfl rfl rfl rfl (by (repeat constructor)) (by rfl), ?_⟩ | refine ⟨_, q_loadA_ext rfl rfl rfl rfl ⟨by assumption, (by first | exact id | assumption)⟩ (by rfl), ?_⟩ | refine ⟨_, q_load_ext rfl rfl rfl rfl ⟨by assumption, (by first | exact id | assumption)⟩ (by first | rfl | assumption), ?_⟩ | refine ⟨_, q_load_extb rfl rfl rfl rfl ⟨by assumption, (by first | exact id | assumption)⟩ (by rfl), ?_⟩ | refine ⟨_, q_loadA_extb rfl rfl rfl rfl ⟨by assumption, (by first | exact id | assumption)⟩ (by rfl), ?_⟩ | refine ⟨_, q_load_ext0 rfl rfl rfl rfl ⟨by assumption, (by first | exact id | assumption)⟩ (by rfl), ?_⟩) | refine jar rfl rfl rfl rfl rfl rfl rfl (by omega) ?_ | (refine gF ?_; first | refine j_store rfl rfl rfl rfl rfl rfl rfl rfl (by (repeat constructor)) (by rfl) ?_ | (refine j_alloc rfl rfl rfl rfl rfl ?_; intro b) | (refine j_box rfl rfl rfl rfl rfl ?_; intro b)) | (refine j_qe rfl rfl rfl ?_; first | refine ⟨_, q_addu8 rfl rfl rfl (by omega), ?_⟩)) | (refine gSC ?_; first | refine sc_mv rfl ?_ | refine sc_q rfl ?_ | refine sc_region ?_) | (refine gSQ ?_; first | refine sq_go rfl ?_ | refine sq_mv rfl ?_ | refine sq_ende (by first | exact .inl rfl | exact .inr rfl) rfl rfl ⟨_, (RVs.cons (RV.tmp rfl) (RVs.cons (RV.tmp rfl) (RVs.cons (RV.tmp rfl) (RVs.nil)))), ?_⟩) | refine j_nil ?_ | ((refine sc_cond rfl ?_ ?_) <;> intro hc <;> (first | exact absurd hc (by decide) | ((try simp only [engHC] at hc) <;> first | (exfalso; omega) | exact absurd trivial hc | skip))))
            rw [hfo]
            (intro w' hS; refine ⟨?_, hS.below⟩; simp only [pack])
            rfl
  · simp only [nextF, hck, ne_eq, not_false_eq_true, if_true]
    refine eng_start (n := 53) (args := [refV v1 v2 v3 P pts.length pc, .slice A l.length c, .slice B hol.length bc, .int .i64 t, .int .i64 d]) tab tab_ok fns fns_ok [.tmp 10, .tmp 11, .tmp 12] Try.func17 rfl rfl rfl rfl ?_
    repeat' (first | (refine gJ ?_; first | refine js rfl rfl rfl rfl ?_ | (refine gload rfl rfl ?_; refine j_qe rfl rfl rfl ?_; first | refine ⟨_, q_load_own rfl rfl rfl rfl (by (repeat constructor)) (by first | rfl | assumption), ?_⟩ | refine ⟨_, q_loadA_own rfl rfl rfl rfl (by (repeat constructor)) (by rfl), ?_⟩ | refine ⟨_, q_loadA_ext rfl rfl rfl rfl ⟨by assumption, (by first | exact id | assumption)⟩ (by rfl), ?_⟩ | refine ⟨_, q_load_ext rfl rfl rfl rfl ⟨by assumption, (by first | exact id | assumption)⟩ (by first | rfl | assumption), ?_⟩ | refine ⟨_, q_load_extb rfl rfl rfl rfl ⟨by assumption, (by first | exact id | assumption)⟩ (by rfl), ?_⟩ | refine ⟨_, q_loadA_extb rfl rfl rfl rfl ⟨by assumption, (by first | exact id | assumption)⟩ (by rfl), ?_⟩ | refine ⟨_, q_load_ext0 rfl rfl rfl rfl ⟨by assumption, (by first | exact id | assumption)⟩ (by rfl), ?_⟩) | refine jar rfl rfl rfl rfl rfl rfl rfl (by omega) ?_ | (refine gcall rfl rfl ?_; first | (refine j_qc (f := 33) rfl rfl rfl rfl rfl rfl rfl ?_; refine ⟨_, (fun w' hs => check_c B bc hol d w' hhl (hH.st hs)), ?_⟩)) | (refine gF ?_; first | refine j_store rfl rfl rfl rfl rfl rfl rfl rfl (by (repeat constructor)) (by rfl) ?_ | (refine j_alloc rfl rfl rfl rfl rfl ?_; intro b) | (refine j_box rfl rfl rfl rfl rfl ?_; intro b)) | (refine j_qe rfl rfl rfl ?_; first | refine ⟨_, q_addu8 rfl rfl rfl (by omega), ?_⟩)) | (refine gSC ?_; first | refine sc_mv rfl ?_ | refine sc_q rfl ?_ | refine sc_region ?_) | (refine gSQ ?_; first | refine sq_go rfl ?_ | refine sq_mv rfl ?_ | refine sq_ende (by first | exact .inl rfl | exact .inr rfl) rfl rfl ⟨_, (RVs.cons (RV.tmp rfl) (RVs.cons (RV.tmp rfl) (RVs.cons (RV.tmp rfl) (RVs.nil)))), ?_⟩) | refine j_nil ?_ | ((refine sc_cond rfl ?_ ?_) <;> intro hc <;> (first | exact absurd hc (by decide) | ((try simp only [engHC] at hc) <;> first | (exfalso; omega) | exact absurd trivial hc | skip))))
    (intro w' hS; refine ⟨?_, hS.below⟩; simp only [pack])
end Go.Proofs.Ytbejfbekamikpaa
