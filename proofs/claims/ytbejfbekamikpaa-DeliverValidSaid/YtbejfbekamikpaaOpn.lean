/-
  deliver: Open.
-/
import Derived.Test.YtbejfbekamikpaaNxt
import Derived.Test.YtbejfbekamikpaaEngCoreB
import Derived.Test.YtbejfbekamikpaaSh
import Derived.Sort.OwnSortedInts
namespace Go.Proofs.Ytbejfbekamikpaa
open Go.RowKit Eng
set_option linter.unusedVariables false
set_option linter.unusedSimpArgs false
set_option maxHeartbeats 8000000
attribute [local irreducible] SC SQ J Qt Calls Iterates LSub FSub
open Go.Sort in
theorem sort_c {w0 w : World} {hot : Nat → Prop} {L L' : List HA} {v : Value} {e : Nat} {zs : List Int} (hs : St w0 hot L w) (hlen : zs.length < 4611686018427387904)
    (hup : Upd L (.own v e 1 zs.length (zs.map (Value.int .i64))) (.own v e 1 zs.length ((zs.mergeSort fun x y => decide (x ≤ y)).map (Value.int .i64))) L') :
    Calls Try.prog 38 #[v] w fun e w' => ∃ u : Unit, True ∧ e = .returned (.tuple #[]) ∧ St w0 hot L' w' := by
  obtain ⟨N, hp1, hp2⟩ := hup.perm
  have hA := (hs.perm hp1).head
  rcases hA.2.2 with ⟨rfl, hn⟩ | ⟨g, cap, cur, rfl, hg, hh, hcap, hmax, hsz, htk⟩
  · have hz : zs = [] := List.length_eq_zero_iff.1 hn
    subst hz
    refine (Try.slices_Sort_int_none none 0 w).mono fun e' w' ⟨he, hw⟩ => ⟨(), trivial, he, ?_⟩
    subst hw
    exact (hs.perm hp1).perm (by simpa using hp2.symm)
  · have hH := holds_of_blockI (ss := zs) hh (by simpa using htk)
    have hlt := (Array.getElem?_eq_some_iff.1 hh).1
    refine (Try.slices_Sort_int g 0 cap zs w hH hlt hlen).mono fun e' w' ⟨he, n, os, hw⟩ => ⟨(), trivial, he, ?_⟩
    subst hw
    have hgb := grownBy_sortedI (w := w) (g := g) (n := n) (os := os) (zs.mergeSort fun x y => decide (x ≤ y)).toArray
    have hrow := ownsRow_sortedI (n := n) (os := os) (ts := zs.mergeSort fun x y => decide (x ≤ y)) (ss := zs) (by simp) hg hh hcap hmax (by simpa using hsz)
    refine hs.upd hup ⟨hgb.os, hgb.tape, hgb.output, hgb.size, fun k hk => by omega⟩ (fun b hb hne => hgb.block b hb (fun e => hne ?_)) ⟨hA.1, hrow⟩ (fun b hb => .inl hb)
    exact (congrArg id e.symm : (Value.slice (some ⟨g, 0, none⟩) zs.length cap).ownBlock = some b)
def openIds (l : List Ru) (hol : List Int) (d : Int) (M : List (Int × Pt)) : List Int := (M.filter fun q => decide (statusF q.2 l hol d = 1)).map (·.1)
def openF (pts : List Pt) (l : List Ru) (hol : List Int) (d : Int) : List Int :=
  if checkF hol d ≠ 0 then [] else (openIds l hol d (firstsF pts)).mergeSort fun x y => decide (x ≤ y)
theorem stepP_inv {M : List (Int × Pt)} {p : Pt} (h : ∀ q ∈ M, q.1 = q.2.id) : ∀ q ∈ stepP M p, q.1 = q.2.id := by
  intro q hq
  unfold stepP at hq
  split at hq
  · exact h q hq
  · rcases List.mem_append.1 hq with hq | hq
    · exact h q hq
    · simp at hq; subst hq; rfl
theorem firsts_id (pts : List Pt) : ∀ q ∈ firstsF pts, q.1 = q.2.id := by
  have : ∀ (l : List Pt) (M : List (Int × Pt)), (∀ q ∈ M, q.1 = q.2.id) → ∀ q ∈ l.foldl stepP M, q.1 = q.2.id := by
    intro l
    induction l with
    | nil => intro M h; exact h
    | cons p l ih => intro M h; exact ih _ (stepP_inv h)
  exact this pts [] (fun q hq => by cases hq)
theorem vals_split {α : Type} {f : α → Value} : ∀ {M : List (Int × α)} {l1 l2 : List (Int × Value)} {k : Int} {v : Value}, valsG f M = l1 ++ (k, v) :: l2 → ∃ M1 x M2, M = M1 ++ (k, x) :: M2 ∧ v = f x ∧ l1 ++ l2 = valsG f (M1 ++ M2)
  | [], l1, l2, k, v, h => by simp [valsG] at h
  | (k', x) :: M, [], l2, k, v, h => by
    simp only [valsG, List.map_cons, List.nil_append, List.cons.injEq, Prod.mk.injEq] at h
    obtain ⟨⟨rfl, rfl⟩, h3⟩ := h
    exact ⟨[], x, M, rfl, rfl, by simp [valsG, h3]⟩
  | (k', x) :: M, q :: l1, l2, k, v, h => by
    simp only [valsG, List.map_cons, List.cons_append, List.cons.injEq] at h
    obtain ⟨h1, h3⟩ := h
    obtain ⟨M1, y, M2, rfl, h4, h5⟩ := vals_split (M := M) h3
    refine ⟨(k', x) :: M1, y, M2, rfl, h4, ?_⟩
    simp only [valsG, List.cons_append, List.map_cons] at h5 ⊢
    rw [h5, ← h1]
theorem own_app {v : Value} {zs : List Int} {x : Int} : HA.own v 3 1 (zs ++ [x]).length ((zs ++ [x]).map (Value.int .i64)) = HA.own v 3 1 (zs.length + 1) (zs.map (Value.int .i64) ++ [.int .i64 x]) := by simp
theorem firsts_len (pts : List Pt) : (firstsF pts).length ≤ pts.length := by
  have : ∀ (l : List Pt) (M : List (Int × Pt)), (l.foldl stepP M).length ≤ M.length + l.length := by
    intro l
    induction l with
    | nil => intro M; simp
    | cons p l ih =>
      intro M
      have h1 : (stepP M p).length ≤ M.length + 1 := by unfold stepP; split <;> simp
      have := ih (stepP M p)
      simp only [List.foldl_cons, List.length_cons]
      omega
  have := this pts []
  simp only [List.length_nil, Nat.zero_add] at this
  exact this
theorem bp_perm3 {X : List HA} {t : Int} {v : Value} {rs : List Ru} {M1 M2 : List (Int × Row)} : (X ++ rowsH (M1 ++ (t, (v, rs)) :: M2)).Perm (.own v 37 5 rs.length (rs.flatMap ruC) :: (X ++ (rowsH M1 ++ rowsH M2))) := by
  simp only [rowsH, List.map_append, List.map_cons]
  rw [← List.append_assoc, ← List.append_assoc]
  exact List.perm_middle
theorem open_cons (l : List Ru) (hol : List Int) (d : Int) (p1 p2 : List (Int × Pt)) (k : Int) (p : Pt) : openIds l hol d (p1 ++ (k, p) :: p2) = openIds l hol d p1 ++ ((if statusF p l hol d = 1 then [k] else []) ++ openIds l hol d p2) := by
  simp only [openIds, List.filter_append, List.filter_cons, List.map_append]
  split <;> simp_all
theorem open_app (l : List Ru) (hol : List Int) (d : Int) (p1 p2 : List (Int × Pt)) : openIds l hol d (p1 ++ p2) = openIds l hol d p1 ++ openIds l hol d p2 := by
  simp only [openIds, List.filter_append, List.map_append]
theorem sort_eq {a b : List Int} (h : a.Perm b) : (a.mergeSort fun x y => decide (x ≤ y)) = b.mergeSort fun x y => decide (x ≤ y) := by
  have ht : ∀ (x y z : Int), decide (x ≤ y) = true → decide (y ≤ z) = true → decide (x ≤ z) = true := by intro x y z; simp; omega
  have hto : ∀ (x y : Int), (decide (x ≤ y) || decide (y ≤ x)) = true := by intro x y; simp; omega
  refine List.Perm.eq_of_pairwise (le := fun x y => decide (x ≤ y) = true) (fun x y _ _ h1 h2 => by simp at h1 h2; omega) (List.pairwise_mergeSort ht hto a) (List.pairwise_mergeSort ht hto b) ?_
  exact (List.mergeSort_perm a _).trans (h.trans (List.mergeSort_perm b _).symm)
theorem Open_c (v1 v2 v3 : Value) (P : Option Addr) (pc : Nat) (pts : List Pt) (A : Option Addr) (c : Nat) (l : List Ru) (B : Option Addr) (bc : Nat) (hol : List Int) (d : Int) (w : World) (g1 : v1.oneCell' = true) (g2 : v2.oneCell' = true) (g3 : v3.oneCell' = true) (hpl : pts.length ≤ 1000000) (hP : RS w 8 ptC P pts)
    (hl : l.length ≤ 1000000) (hok : ∀ x ∈ l, ruOk x) (h : RS w 5 ruC A l) (hhl : hol.length ≤ 9223372036854775807) (hH : RS w 1 intC B hol) :
    Calls Try.prog 18 #[refV v1 v2 v3 P pts.length pc, .slice A l.length c, .slice B hol.length bc, .int .i64 d] w fun e w' => ∃ v : Value, True ∧ e = .returned (.tuple #[v, .int .i64 (checkF hol d)]) ∧ St w Cold [.own v 3 1 (openF pts l hol d).length ((openF pts l hol d).map (Value.int .i64))] w' := by
  by_cases hck : checkF hol d = 0
  · obtain ⟨hr, h0, h1⟩ := check_zero hck
    simp only [openF, hck, ne_eq, not_true, if_false]
    refine eng_start (n := 46) (args := [refV v1 v2 v3 P pts.length pc, .slice A l.length c, .slice B hol.length bc, .int .i64 d]) tab tab_ok fns fns_ok [.tmp 8, .tmp 9] Try.func18 rfl rfl rfl rfl ?_
    repeat' (first | (refine gJ ?_; first | refine js rfl rfl rfl rfl ?_ | (refine gload rfl rfl ?_; refine j_qe rfl rfl rfl ?_; first | refine ⟨_, q_load_own rfl rfl rfl rfl (by (repeat constructor)) (by first | rfl | assumption), ?_⟩ | refine ⟨_, q_loadA_own rfl rfl rfl rfl (by (repeat constructor)) (by rfl), ?_⟩ | refine ⟨_, q_loadA_ext rfl rfl rfl rfl ⟨by assumption, (by first | exact id | assumption)⟩ (by rfl), ?_⟩ | refine ⟨_, q_load_ext rfl rfl rfl rfl ⟨by assumption, (by first | exact id | assumption)⟩ (by first | rfl | assumption), ?_⟩ | refine ⟨_, q_load_extb rfl rfl rfl rfl ⟨by assumption, (by first | exact id | assumption)⟩ (by rfl), ?_⟩ | refine ⟨_, q_loadA_extb rfl rfl rfl rfl ⟨by assumption, (by first | exact id | assumption)⟩ (by rfl), ?_⟩ | refine ⟨_, q_load_ext0 rfl rfl rfl rfl ⟨by assumption, (by first | exact id | assumption)⟩ (by rfl), ?_⟩) | (refine gcall rfl rfl ?_; first | (refine j_qc (f := 33) rfl rfl rfl rfl rfl rfl rfl ?_; refine ⟨_, (fun w' hs => hck ▸ check_c B bc hol d w' hhl (hH.st hs)), ?_⟩)) | (refine gcall rfl rfl ?_; refine gF ?_; refine j_callN (f := 35) rfl rfl rfl rfl rfl rfl rfl bpV (fun x => bpI l x.2) bpL (fun w' hs => byPoint_c A c l w' hl (h.st hs)) bpL_plain ?_; rintro ⟨bm, M⟩ hM; refine j_perm bp_perm0 ?_) | (refine gcall rfl rfl ?_; refine gF ?_; refine j_callN (f := 37) rfl rfl rfl rfl rfl rfl rfl (fun b => .map (some b)) (fun _ => True) (fun b => [haMap b .i64 (valsG ptV (firstsF pts))]) (fun w' hs => firsts_c v1 v2 v3 P pc pts w' (by omega) (hP.st hs) g1 g2 g3) (fun b => ⟨fun u u' ⟨o, h1, h2⟩ hk => ⟨o, (hk _ rfl).trans h1, h2⟩, trivial⟩) ?_; rintro bf _) | (refine gF ?_; refine j_range rfl rfl rfl rfl rfl rfl rfl (fun _ => by (repeat constructor)) ?_; intro br) | (refine gF ?_; first | refine j_store rfl rfl rfl rfl rfl rfl rfl rfl (by (repeat constructor)) (by rfl) ?_ | (refine j_alloc rfl rfl rfl rfl rfl ?_; intro b) | (refine j_box rfl rfl rfl rfl rfl ?_; intro b) | (refine j_buildSlice rfl rfl rfl rfl rfl rfl rfl rfl rfl rfl rfl rfl ?_; intro b) | (refine j_append rfl rfl rfl rfl rfl rfl rfl rfl rfl rfl rfl (by (repeat constructor)) (by (repeat constructor)) (by rfl) (by rfl) (by omega) (fun _ => by (repeat constructor)) ?_; intro v))) | (refine gSC ?_; first | refine sc_mv rfl ?_ | refine sc_q rfl ?_ | refine sc_region ?_) | (refine gSQ ?_; first | refine sq_go rfl ?_ | refine sq_mv rfl ?_ | refine sq_ende (by first | exact .inl rfl | exact .inr rfl) rfl rfl ⟨_, (RVs.cons (RV.tmp rfl) (RVs.cons (RV.tmp rfl) (RVs.nil))), ?_⟩) | refine j_nil ?_ | ((refine sc_cond rfl ?_ ?_) <;> intro hc <;> (first | exact absurd hc (by decide) | ((try simp only [engHC] at hc) <;> first | (exfalso; omega) | exact absurd trivial hc | skip))))
    dsimp only at hM
    refine sc_own_nil 3 1 ?_
    refine sc_loop (ι := List Int × List (Int × Pt) × Value × Option (Int × Value)) (fun i => (i.1 ++ openIds l hol d i.2.1).Perm (openIds l hol d (firstsF pts)) ∧ (∀ q ∈ i.2.1, q ∈ firstsF pts) ∧ i.1.length + i.2.1.length ≤ 1000000) (fun i => i.2.1.length)
      (fun i => [(2, .slice B hol.length bc), (3, .int .i64 d), (11, .map (some bm)), (12, i.2.2.1), (25, .pointer (some ⟨br, 0, none⟩))])
      (fun i => .own i.2.2.1 3 1 i.1.length (i.1.map (Value.int .i64)) :: haIt bf br .i64 (valsG ptV (firstsF pts)) (valsG ptV i.2.1) i.2.2.2 :: haMap bm .i64 (valsG rowV M) :: rowsH M)
      ([], firstsF pts, .slice none 0 0, none) ⟨by simp, fun q hq => hq, by have := firsts_len pts; simp; omega⟩ (by repeat (first | exact FSub.nil | refine FSub.cons rfl ?_ | refine FSub.conse rfl (by congr 1; omega) ?_)) (by repeat (first | exact LSub.refl | refine LSub.cons (by repeat (first | exact Rem.here | apply Rem.there)) ?_ | apply LSub.skip)) ?_
    rintro ⟨zs, left, v, cur⟩ ⟨hperm, hsub, hlen⟩
    dsimp only at hperm hsub hlen ⊢
    repeat' (first | (refine gJ ?_; first | refine js rfl rfl rfl rfl ?_ | (refine gload rfl rfl ?_; refine j_qe rfl rfl rfl ?_; first | refine ⟨_, q_load_own rfl rfl rfl rfl (by (repeat constructor)) (by first | rfl | assumption), ?_⟩ | refine ⟨_, q_loadA_own rfl rfl rfl rfl (by (repeat constructor)) (by rfl), ?_⟩ | refine ⟨_, q_loadA_ext rfl rfl rfl rfl ⟨by assumption, (by first | exact id | assumption)⟩ (by rfl), ?_⟩ | refine ⟨_, q_load_ext rfl rfl rfl rfl ⟨by assumption, (by first | exact id | assumption)⟩ (by first | rfl | assumption), ?_⟩ | refine ⟨_, q_load_extb rfl rfl rfl rfl ⟨by assumption, (by first | exact id | assumption)⟩ (by rfl), ?_⟩ | refine ⟨_, q_loadA_extb rfl rfl rfl rfl ⟨by assumption, (by first | exact id | assumption)⟩ (by rfl), ?_⟩ | refine ⟨_, q_load_ext0 rfl rfl rfl rfl ⟨by assumption, (by first | exact id | assumption)⟩ (by rfl), ?_⟩) | (refine gF ?_; first | refine j_store rfl rfl rfl rfl rfl rfl rfl rfl (by (repeat constructor)) (by rfl) ?_ | (refine j_alloc rfl rfl rfl rfl rfl ?_; intro b) | (refine j_box rfl rfl rfl rfl rfl ?_; intro b) | (refine j_buildSlice rfl rfl rfl rfl rfl rfl rfl rfl rfl rfl rfl rfl ?_; intro b) | (refine j_append rfl rfl rfl rfl rfl rfl rfl rfl rfl rfl rfl (by (repeat constructor)) (by (repeat constructor)) (by rfl) (by rfl) (by omega) (fun _ => by (repeat constructor)) ?_; intro v))) | (refine gSC ?_; first | refine sc_mv rfl ?_ | refine sc_q rfl ?_ | refine sc_region ?_) | (refine gSQ ?_; first | refine sq_go rfl ?_ | refine sq_mv rfl ?_ | refine sq_ende (by first | exact .inl rfl | exact .inr rfl) rfl rfl ⟨_, (RVs.cons (RV.tmp rfl) (RVs.cons (RV.tmp rfl) (RVs.nil))), ?_⟩) | refine j_nil ?_ | ((refine sc_cond rfl ?_ ?_) <;> intro hc <;> (first | exact absurd hc (by decide) | ((try simp only [engHC] at hc) <;> first | (exfalso; omega) | exact absurd trivial hc | skip))))
    refine gJ ?_
    refine j_next rfl rfl rfl rfl rfl (by (repeat constructor)) (fun _ _ _ => by (repeat constructor)) ?_ ?_
    · intro hl0
      have hl1 : left = [] := by
        cases left with
        | nil => rfl
        | cons => simp [valsG] at hl0
      subst hl1
      have hpz : zs.Perm (openIds l hol d (firstsF pts)) := by simpa [openIds] using hperm
      simp only [List.length_nil, Nat.add_zero] at hlen
      repeat' (first | (refine gJ ?_; first | refine js rfl rfl rfl rfl ?_ | (refine gload rfl rfl ?_; refine j_qe rfl rfl rfl ?_; first | refine ⟨_, q_load_own rfl rfl rfl rfl (by (repeat constructor)) (by first | rfl | assumption), ?_⟩ | refine ⟨_, q_loadA_own rfl rfl rfl rfl (by (repeat constructor)) (by rfl), ?_⟩ | refine ⟨_, q_loadA_ext rfl rfl rfl rfl ⟨by assumption, (by first | exact id | assumption)⟩ (by rfl), ?_⟩ | refine ⟨_, q_load_ext rfl rfl rfl rfl ⟨by assumption, (by first | exact id | assumption)⟩ (by first | rfl | assumption), ?_⟩ | refine ⟨_, q_load_extb rfl rfl rfl rfl ⟨by assumption, (by first | exact id | assumption)⟩ (by rfl), ?_⟩ | refine ⟨_, q_loadA_extb rfl rfl rfl rfl ⟨by assumption, (by first | exact id | assumption)⟩ (by rfl), ?_⟩ | refine ⟨_, q_load_ext0 rfl rfl rfl rfl ⟨by assumption, (by first | exact id | assumption)⟩ (by rfl), ?_⟩) | (refine gcall rfl rfl ?_; refine gF ?_; refine j_call (f := 38) (ξ := Unit) (fun _ => .tuple #[]) (fun _ => True) (fun _ => _) rfl rfl rfl rfl rfl rfl rfl (fun w' hs => sort_c (zs := zs) (v := v) (e := 3) hs (by omega) (by (repeat constructor))) ?_; intro _ _) | (refine gF ?_; first | refine j_store rfl rfl rfl rfl rfl rfl rfl rfl (by (repeat constructor)) (by rfl) ?_ | (refine j_alloc rfl rfl rfl rfl rfl ?_; intro b) | (refine j_box rfl rfl rfl rfl rfl ?_; intro b) | (refine j_buildSlice rfl rfl rfl rfl rfl rfl rfl rfl rfl rfl rfl rfl ?_; intro b) | (refine j_append rfl rfl rfl rfl rfl rfl rfl rfl rfl rfl rfl (by (repeat constructor)) (by (repeat constructor)) (by rfl) (by rfl) (by omega) (fun _ => by (repeat constructor)) ?_; intro v))) | (refine gSC ?_; first | refine sc_mv rfl ?_ | refine sc_q rfl ?_ | refine sc_region ?_) | (refine gSQ ?_; first | refine sq_go rfl ?_ | refine sq_mv rfl ?_ | refine sq_ende (by first | exact .inl rfl | exact .inr rfl) rfl rfl ⟨_, (RVs.cons (RV.tmp rfl) (RVs.cons (RV.tmp rfl) (RVs.nil))), ?_⟩) | refine j_nil ?_ | ((refine sc_cond rfl ?_ ?_) <;> intro hc <;> (first | exact absurd hc (by decide) | ((try simp only [engHC] at hc) <;> first | (exfalso; omega) | exact absurd trivial hc | skip))))
      intro w' hS
      refine ⟨v, trivial, rfl, ?_⟩
      rw [← sort_eq hpz, List.length_mergeSort]
      exact hS.sub (by repeat (first | exact LSub.nil | refine LSub.cons (by repeat (first | exact Rem.here | apply Rem.there)) ?_))
    · intro l1 k v0 l2 hsp
      obtain ⟨p1, p, p2, rfl, rfl, hl'⟩ := vals_split hsp
      rw [hl']
      have hid : k = p.id := firsts_id pts (k, p) (hsub (k, p) (by simp))
      rcases bp_cases hM k with ⟨hmv, hnil⟩ | ⟨u, M1, M2, rfl, hmv⟩
      · have hst : statusF p [] hol d = statusF p l hol d := by have := statusF_own p l hol d; rw [← hid, hnil] at this; exact this
        repeat' (first | (refine gJ ?_; first | refine js rfl rfl rfl rfl ?_ | (refine gload rfl rfl ?_; refine j_qe rfl rfl rfl ?_; first | refine ⟨_, q_load_own rfl rfl rfl rfl (by (repeat constructor)) (by first | rfl | assumption), ?_⟩ | refine ⟨_, q_loadA_own rfl rfl rfl rfl (by (repeat constructor)) (by rfl), ?_⟩ | refine ⟨_, q_loadA_ext rfl rfl rfl rfl ⟨by assumption, (by first | exact id | assumption)⟩ (by rfl), ?_⟩ | refine ⟨_, q_load_ext rfl rfl rfl rfl ⟨by assumption, (by first | exact id | assumption)⟩ (by first | rfl | assumption), ?_⟩ | refine ⟨_, q_load_extb rfl rfl rfl rfl ⟨by assumption, (by first | exact id | assumption)⟩ (by rfl), ?_⟩ | refine ⟨_, q_loadA_extb rfl rfl rfl rfl ⟨by assumption, (by first | exact id | assumption)⟩ (by rfl), ?_⟩ | refine ⟨_, q_load_ext0 rfl rfl rfl rfl ⟨by assumption, (by first | exact id | assumption)⟩ (by rfl), ?_⟩) | (refine gcall rfl rfl ?_; first | (refine j_qc (f := 36) rfl rfl rfl rfl rfl rfl rfl ?_; refine ⟨_, (fun w' hs => by have h9 := status_c p none 0 ([] : List Ru) B bc hol d w' (by simp) (fun x hx => by cases hx) RS.nil (by omega) (by omega) (right_len hr) (hH.st hs) (right_sorted hr); rw [hst] at h9; exact h9), ?_⟩)) | (refine j_qe rfl rfl rfl ?_; refine ⟨_, q_lookup (v := .slice none 0 0) rfl rfl rfl rfl rfl rfl rfl rfl (by (repeat constructor)) (by first | (rw [hmv]; done) | (rw [hmv]; rfl)), ?_⟩) | (refine j_qe rfl rfl rfl ?_; refine ⟨_, q_entry rfl rfl (by (repeat constructor)), ?_⟩) | (refine gF ?_; first | refine j_store rfl rfl rfl rfl rfl rfl rfl rfl (by (repeat constructor)) (by rfl) ?_ | (refine j_alloc rfl rfl rfl rfl rfl ?_; intro b) | (refine j_box rfl rfl rfl rfl rfl ?_; intro b) | (refine j_buildSlice rfl rfl rfl rfl rfl rfl rfl rfl rfl rfl rfl rfl ?_; intro b) | (refine j_append rfl rfl rfl rfl rfl rfl rfl rfl rfl rfl rfl (by (repeat constructor)) (by (repeat constructor)) (by rfl) (by rfl) (by omega) (fun _ => by (repeat constructor)) ?_; intro v))) | (refine gSC ?_; first | refine sc_mv rfl ?_ | refine sc_q rfl ?_ | refine sc_region ?_) | (refine gSQ ?_; first | refine sq_go rfl ?_ | refine sq_mv rfl ?_ | refine sq_ende (by first | exact .inl rfl | exact .inr rfl) rfl rfl ⟨_, (RVs.cons (RV.tmp rfl) (RVs.cons (RV.tmp rfl) (RVs.nil))), ?_⟩) | refine j_nil ?_ | ((refine sc_cond rfl ?_ ?_) <;> intro hc <;> (first | exact absurd hc (by decide) | ((try simp only [engHC] at hc) <;> first | (exfalso; omega) | exact absurd trivial hc | skip))))
        · rw [open_cons, if_pos (by assumption)] at hperm
          refine sq_loop (zs ++ [k], p1 ++ p2, v, some (k, ptV p)) ⟨?_, fun q hq => hsub q (by rcases List.mem_append.1 hq with hq | hq <;> simp [hq]), by simp only [List.length_append, List.length_cons, List.length_nil] at hlen ⊢; omega⟩ (by simp only [List.length_append, List.length_cons]; omega) (by repeat (first | exact FSub.nil | refine FSub.cons rfl ?_ | refine FSub.conse rfl (by congr 1; omega) ?_)) ?_
          · refine List.Perm.trans ?_ hperm
            rw [open_app, List.append_assoc]
            exact List.Perm.append_left zs (by simpa only [List.singleton_append] using (List.perm_middle (a := k)).symm)
          · dsimp only
            rw [own_app]
            exact (by repeat (first | exact LSub.refl | refine LSub.cons (by repeat (first | exact Rem.here | apply Rem.there)) ?_ | apply LSub.skip))
        · rw [open_cons, if_neg (by assumption), List.nil_append, ← open_app] at hperm
          refine sq_loop (zs, p1 ++ p2, v, some (k, ptV p)) ⟨hperm, fun q hq => hsub q (by rcases List.mem_append.1 hq with hq | hq <;> simp [hq]), by simp only [List.length_append, List.length_cons] at hlen ⊢; omega⟩ (by simp only [List.length_append, List.length_cons]; omega) (by repeat (first | exact FSub.nil | refine FSub.cons rfl ?_ | refine FSub.conse rfl (by congr 1; omega) ?_)) ?_
          · dsimp only
            exact (by repeat (first | exact LSub.refl | refine LSub.cons (by repeat (first | exact Rem.here | apply Rem.there)) ?_ | apply LSub.skip))
      · obtain ⟨rs, hrs⟩ : ∃ rs, (l.filter fun x => decide (x.pt = k)) = rs := ⟨_, rfl⟩
        have hrl : rs.length ≤ 1000000 := by rw [← hrs]; exact Nat.le_trans (List.length_filter_le _ _) hl
        have hrok : ∀ x ∈ rs, ruOk x := fun x hx => hok x (by rw [← hrs] at hx; exact (List.mem_filter.1 hx).1)
        have hst : statusF p rs hol d = statusF p l hol d := by have := statusF_own p l hol d; rw [← hid, hrs] at this; exact this
        simp only [hrs] at hmv hM ⊢
        refine j_perm (bp_perm3 (X := [_, _, _])) ?_
        refine j_own (by (repeat constructor)) ?_
        rintro A' c' rfl
        repeat' (first | (refine gJ ?_; first | refine js rfl rfl rfl rfl ?_ | (refine gload rfl rfl ?_; refine j_qe rfl rfl rfl ?_; first | refine ⟨_, q_load_own rfl rfl rfl rfl (by (repeat constructor)) (by first | rfl | assumption), ?_⟩ | refine ⟨_, q_loadA_own rfl rfl rfl rfl (by (repeat constructor)) (by rfl), ?_⟩ | refine ⟨_, q_loadA_ext rfl rfl rfl rfl ⟨by assumption, (by first | exact id | assumption)⟩ (by rfl), ?_⟩ | refine ⟨_, q_load_ext rfl rfl rfl rfl ⟨by assumption, (by first | exact id | assumption)⟩ (by first | rfl | assumption), ?_⟩ | refine ⟨_, q_load_extb rfl rfl rfl rfl ⟨by assumption, (by first | exact id | assumption)⟩ (by rfl), ?_⟩ | refine ⟨_, q_loadA_extb rfl rfl rfl rfl ⟨by assumption, (by first | exact id | assumption)⟩ (by rfl), ?_⟩ | refine ⟨_, q_load_ext0 rfl rfl rfl rfl ⟨by assumption, (by first | exact id | assumption)⟩ (by rfl), ?_⟩) | (refine gcall rfl rfl ?_; first | (refine j_qc (f := 36) rfl rfl rfl rfl rfl rfl rfl ?_; refine ⟨_, (fun w' hs => by have h9 := status_c p A' c' rs B bc hol d w' (by omega) hrok (rs_of_own hs (fun _ => rfl) (by (repeat constructor))) (by omega) (by omega) (right_len hr) (hH.st hs) (right_sorted hr); rw [hst] at h9; exact h9), ?_⟩)) | (refine j_qe rfl rfl rfl ?_; refine ⟨_, q_lookup (v := .slice A' rs.length c') rfl rfl rfl rfl rfl rfl rfl rfl (by (repeat constructor)) (by first | (rw [hmv]; done) | (rw [hmv]; rfl)), ?_⟩) | (refine j_qe rfl rfl rfl ?_; refine ⟨_, q_entry rfl rfl (by (repeat constructor)), ?_⟩) | (refine gF ?_; first | refine j_store rfl rfl rfl rfl rfl rfl rfl rfl (by (repeat constructor)) (by rfl) ?_ | (refine j_alloc rfl rfl rfl rfl rfl ?_; intro b) | (refine j_box rfl rfl rfl rfl rfl ?_; intro b) | (refine j_buildSlice rfl rfl rfl rfl rfl rfl rfl rfl rfl rfl rfl rfl ?_; intro b) | (refine j_append rfl rfl rfl rfl rfl rfl rfl rfl rfl rfl rfl (by (repeat constructor)) (by (repeat constructor)) (by rfl) (by rfl) (by omega) (fun _ => by (repeat constructor)) ?_; intro v))) | (refine gSC ?_; first | refine sc_mv rfl ?_ | refine sc_q rfl ?_ | refine sc_region ?_) | (refine gSQ ?_; first | refine sq_go rfl ?_ | refine sq_mv rfl ?_ | refine sq_ende (by first | exact .inl rfl | exact .inr rfl) rfl rfl ⟨_, (RVs.cons (RV.tmp rfl) (RVs.cons (RV.tmp rfl) (RVs.nil))), ?_⟩) | refine j_nil ?_ | ((refine sc_cond rfl ?_ ?_) <;> intro hc <;> (first | exact absurd hc (by decide) | ((try simp only [engHC] at hc) <;> first | (exfalso; omega) | exact absurd trivial hc | skip))))
        · rw [open_cons, if_pos (by assumption)] at hperm
          refine sq_loop (zs ++ [k], p1 ++ p2, v, some (k, ptV p)) ⟨?_, fun q hq => hsub q (by rcases List.mem_append.1 hq with hq | hq <;> simp [hq]), by simp only [List.length_append, List.length_cons, List.length_nil] at hlen ⊢; omega⟩ (by simp only [List.length_append, List.length_cons]; omega) (by repeat (first | exact FSub.nil | refine FSub.cons rfl ?_ | refine FSub.conse rfl (by congr 1; omega) ?_)) ?_
          · refine List.Perm.trans ?_ hperm
            rw [open_app, List.append_assoc]
            exact List.Perm.append_left zs (by simpa only [List.singleton_append] using (List.perm_middle (a := k)).symm)
          · dsimp only
            rw [own_app]
            refine LSub.perm (L' := .own (.slice A' rs.length c') 37 5 rs.length (rs.flatMap ruC) :: .own v 3 1 (zs.length + 1) (zs.map (Value.int .i64) ++ [.int .i64 k]) :: haIt bf br .i64 (valsG ptV (firstsF pts)) (valsG ptV (p1 ++ p2)) (some (k, ptV p)) :: haMap bm .i64 (valsG rowV (M1 ++ (k, (.slice A' rs.length c', rs)) :: M2)) :: (rowsH M1 ++ rowsH M2)) (by repeat (first | exact LSub.refl | refine LSub.cons (by repeat (first | exact Rem.here | apply Rem.there)) ?_ | apply LSub.skip)) (bp_perm3 (X := [_, _, _])).symm
        · rw [open_cons, if_neg (by assumption), List.nil_append, ← open_app] at hperm
          refine sq_loop (zs, p1 ++ p2, v, some (k, ptV p)) ⟨hperm, fun q hq => hsub q (by rcases List.mem_append.1 hq with hq | hq <;> simp [hq]), by simp only [List.length_append, List.length_cons] at hlen ⊢; omega⟩ (by simp only [List.length_append, List.length_cons]; omega) (by repeat (first | exact FSub.nil | refine FSub.cons rfl ?_ | refine FSub.conse rfl (by congr 1; omega) ?_)) ?_
          · dsimp only
            refine LSub.perm (L' := .own (.slice A' rs.length c') 37 5 rs.length (rs.flatMap ruC) :: .own v 3 1 zs.length (zs.map (Value.int .i64)) :: haIt bf br .i64 (valsG ptV (firstsF pts)) (valsG ptV (p1 ++ p2)) (some (k, ptV p)) :: haMap bm .i64 (valsG rowV (M1 ++ (k, (.slice A' rs.length c', rs)) :: M2)) :: (rowsH M1 ++ rowsH M2)) (by repeat (first | exact LSub.refl | refine LSub.cons (by repeat (first | exact Rem.here | apply Rem.there)) ?_ | apply LSub.skip)) (bp_perm3 (X := [_, _, _])).symm
  · simp only [openF, hck, ne_eq, not_false_eq_true, if_true]
    refine eng_start (n := 46) (args := [refV v1 v2 v3 P pts.length pc, .slice A l.length c, .slice B hol.length bc, .int .i64 d]) tab tab_ok fns fns_ok [.tmp 8, .tmp 9] Try.func18 rfl rfl rfl rfl ?_
    repeat' (first | (refine gJ ?_; first | refine js rfl rfl rfl rfl ?_ | (refine gload rfl rfl ?_; refine j_qe rfl rfl rfl ?_; first | refine ⟨_, q_load_own rfl rfl rfl rfl (by (repeat constructor)) (by first | rfl | assumption), ?_⟩ | refine ⟨_, q_loadA_own rfl rfl rfl rfl (by (repeat constructor)) (by rfl), ?_⟩ | refine ⟨_, q_loadA_ext rfl rfl rfl rfl ⟨by assumption, (by first | exact id | assumption)⟩ (by rfl), ?_⟩ | refine ⟨_, q_load_ext rfl rfl rfl rfl ⟨by assumption, (by first | exact id | assumption)⟩ (by first | rfl | assumption), ?_⟩ | refine ⟨_, q_load_extb rfl rfl rfl rfl ⟨by assumption, (by first | exact id | assumption)⟩ (by rfl), ?_⟩ | refine ⟨_, q_loadA_extb rfl rfl rfl rfl ⟨by assumption, (by first | exact id | assumption)⟩ (by rfl), ?_⟩ | refine ⟨_, q_load_ext0 rfl rfl rfl rfl ⟨by assumption, (by first | exact id | assumption)⟩ (by rfl), ?_⟩) | (refine gcall rfl rfl ?_; first | (refine j_qc (f := 33) rfl rfl rfl rfl rfl rfl rfl ?_; refine ⟨_, (fun w' hs => check_c B bc hol d w' hhl (hH.st hs)), ?_⟩)) | (refine gF ?_; first | refine j_store rfl rfl rfl rfl rfl rfl rfl rfl (by (repeat constructor)) (by rfl) ?_ | (refine j_alloc rfl rfl rfl rfl rfl ?_; intro b) | (refine j_box rfl rfl rfl rfl rfl ?_; intro b) | (refine j_buildSlice rfl rfl rfl rfl rfl rfl rfl rfl rfl rfl rfl rfl ?_; intro b) | (refine j_append rfl rfl rfl rfl rfl rfl rfl rfl rfl rfl rfl (by (repeat constructor)) (by (repeat constructor)) (by rfl) (by rfl) (by omega) (fun _ => by (repeat constructor)) ?_; intro v))) | (refine gSC ?_; first | refine sc_mv rfl ?_ | refine sc_q rfl ?_ | refine sc_region ?_) | (refine gSQ ?_; first | refine sq_go rfl ?_ | refine sq_mv rfl ?_ | refine sq_ende (by first | exact .inl rfl | exact .inr rfl) rfl rfl ⟨_, (RVs.cons (RV.tmp rfl) (RVs.cons (RV.tmp rfl) (RVs.nil))), ?_⟩) | refine j_nil ?_ | ((refine sc_cond rfl ?_ ?_) <;> intro hc <;> (first | exact absurd hc (by decide) | ((try simp only [engHC] at hc) <;> first | (exfalso; omega) | exact absurd trivial hc | skip))))
    intro w' hS
    exact ⟨.slice none 0 0, trivial, rfl, (St.own_nil (e := 3) (sz := 1) hS).sub (by repeat (first | exact LSub.nil | refine LSub.cons (by repeat (first | exact Rem.here | apply Rem.there)) ?_))⟩
end Go.Proofs.Ytbejfbekamikpaa
