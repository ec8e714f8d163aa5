/-
  letterbagkit: towns lent, and whether they were kept or are the same.
-/
import Derived.Test.YtbejfbekamikpaaLty
namespace Go.Proofs.Ytbejfbekamikpaa
open Go.RowKit Eng
set_option linter.unusedVariables false
set_option linter.unusedSimpArgs false
set_option maxHeartbeats 8000000
attribute [local irreducible] SC SQ J Qt Calls Iterates LSub FSub
structure Tn where
  id : Int
  ct : Int
  nm : List UInt8
  rg : List UInt8
  A : Option Addr
  c : Nat
  cd : List (List UInt8)
abbrev tnC (x : Tn) : List Value := [.int .i64 x.id, .int .u8 x.ct, strV x.nm, strV x.rg, .slice x.A x.cd.length x.c]
abbrev tnV (x : Tn) : Value := .agg (tnC x).toArray
abbrev reT (x : Tn) (B : Option Addr) (d : Nat) : Tn := { x with A := B, c := d }
structure okT (w : World) (x : Tn) : Prop where
  sl : Sl x.A x.cd.length x.c
  rs : RS w 1 strC x.A x.cd
  len : x.cd.length * 16 ≤ 140737488351232
theorem okT.st {w0 w : World} {x : Tn} (h : okT w0 x) {L : List HA} (hs : St w0 Cold L w) : okT w x := ⟨h.sl, h.rs.st hs, h.len⟩
set_option maxHeartbeats 8000000 in
theorem lent1T_c (x : Tn) (w : World) (hok : okT w x) :
    Calls Try.prog 71 #[tnV x] w fun e w' => ∃ p : Addr × Nat, x.cd.length + 12 ≤ p.2 ∧ e = .returned (tnV (reT x (some p.1) p.2)) ∧ St w Cold [.own (.slice (some p.1) (x.cd.length + 12) p.2) 9 1 (x.cd.length + 12) ((x.cd ++ mksX 12).flatMap strC)] w' := by
  have hlx := fun w' (h : RS w' 1 strC x.A x.cd) => lentX_c x.A x.c x.cd w' hok.len hok.sl h
  have hR := hok.rs
  refine eng_start (n := 8) (args := [tnV x]) tab tab_ok fns fns_ok [.cell 2 122] Try.func71 rfl rfl rfl rfl ?_
  repeat' (first | (refine gJ ?_; first | refine js rfl rfl rfl rfl ?_ | (refine gload rfl rfl ?_; refine j_qe rfl rfl rfl ?_; first | refine ⟨_, q_load_own rfl rfl rfl rfl (by (repeat constructor)) (by first | rfl | assumption), ?_⟩ | refine ⟨_, q_loadA_own rfl rfl rfl rfl (by (repeat constructor)) (by rfl), ?_⟩ | refine ⟨_, q_loadA_ext rfl rfl rfl rfl ⟨by assumption, (by first | exact id | assumption)⟩ (by rfl), ?_⟩ | refine ⟨_, q_load_ext rfl rfl rfl rfl ⟨by assumption, (by first | exact id | assumption)⟩ (by first | rfl | assumption), ?_⟩ | refine ⟨_, q_load_extb rfl rfl rfl rfl ⟨by assumption, (by first | exact id | assumption)⟩ (by rfl), ?_⟩ | refine ⟨_, q_loadA_extb rfl rfl rfl rfl ⟨by assumption, (by first | exact id | assumption)⟩ (by rfl), ?_⟩ | refine ⟨_, q_load_ext0 rfl rfl rfl rfl ⟨by assumption, (by first | exact id | assumption)⟩ (by rfl), ?_⟩) | refine jfield rfl rfl rfl rfl rfl rfl rfl rfl ?_ | (refine gcall rfl rfl ?_; refine gF ?_; refine j_callN (f := 104) rfl rfl rfl rfl rfl rfl rfl (fun p : Addr × Nat => .slice (some p.1) x.cd.length p.2) (fun p => x.cd.length + 12 ≤ p.2) (fun p => [.own (.slice (some p.1) (x.cd.length + 12) p.2) 9 1 (x.cd.length + 12) ((x.cd ++ mksX 12).flatMap strC)]) (fun w' hs => hlx w' (hR.st hs)) (fun _ => trivial) ?_; rintro p hp) | (refine gF ?_; first | refine j_store rfl rfl rfl rfl rfl rfl rfl rfl (by (repeat constructor)) (by rfl) ?_ | (refine j_alloc rfl rfl rfl rfl rfl ?_; intro b) | (refine j_box rfl rfl rfl rfl rfl ?_; intro b)) | (refine j_qe rfl rfl rfl ?_; first | refine ⟨_, q_field_ext rfl rfl rfl rfl rfl, ?_⟩)) | (refine gSC ?_; first | refine sc_mv rfl ?_ | refine sc_q rfl ?_ | refine sc_region ?_) | (refine gSQ ?_; first | refine sq_go rfl ?_ | refine sq_mv rfl ?_ | refine sq_ende (by first | exact .inl rfl | exact .inr rfl) rfl rfl ⟨_, (RVs.cons (by first | exact RV.cell rfl rfl rfl (by (repeat constructor)) (by rfl) | exact RV.cellA rfl rfl rfl (by (repeat constructor)) (by rfl)) (RVs.nil)), ?_⟩) | refine j_nil ?_ | ((refine sc_cond rfl ?_ ?_) <;> intro hc <;> (first | exact absurd hc (by decide) | ((try simp only [engHC] at hc) <;> first | (exfalso; omega) | exact absurd trivial hc | skip))))
  intro w' hS
  exact ⟨p, hp, rfl, hS.sub (by repeat (first | exact LSub.nil | refine LSub.cons (by repeat (first | exact Rem.here | apply Rem.there)) ?_))⟩
def mkT (i : Int) : Tn := ⟨1000003 * (1 + 7) + i, 0, [], [], none, 0, []⟩
def mksT : Nat → List Tn
  | 0 => []
  | n + 1 => mksT n ++ [mkT n]
theorem mksT_len : ∀ n, (mksT n).length = n
  | 0 => rfl
  | n + 1 => by simp [mksT, mksT_len n]
theorem mksT_get : ∀ n i, i < n → (mksT n)[i]? = some (mkT i)
  | 0, i, h => by omega
  | n + 1, i, h => by
    simp only [mksT]
    by_cases hi : i < n
    · rw [List.getElem?_append_left (by rw [mksT_len]; exact hi), mksT_get n i hi]
    · have : i = n := by omega
      subst this
      rw [List.getElem?_append_right (by rw [mksT_len]; omega), mksT_len, Nat.sub_self]
      rfl
theorem markT_c (i : Int) (w : World) (hi : 0 ≤ i ∧ i ≤ 100000) : Calls Try.prog 72 #[.int .i64 1, .int .i64 i] w fun e w' => e = .returned (tnV (mkT i)) ∧ Below w.heap.size w w' := by
  refine eng_start (n := 9) (args := [.int .i64 1, .int .i64 i]) tab tab_ok fns fns_ok [.cell 4 122] Try.func72 rfl rfl rfl rfl ?_
  repeat' (first | (refine gJ ?_; first | refine js rfl rfl rfl rfl ?_ | (refine gcall rfl rfl ?_; first | (refine j_qc (f := 77) rfl rfl rfl rfl rfl rfl rfl ?_; refine ⟨_, (fun w' _ => mark_c 1 i w' (by omega) hi), ?_⟩)) | (refine gF ?_; first | refine j_store rfl rfl rfl rfl rfl rfl rfl rfl (by (repeat constructor)) (by rfl) ?_ | (refine j_alloc rfl rfl rfl rfl rfl ?_; intro b)) | (refine j_qe rfl rfl rfl ?_; first | refine ⟨_, q_build_struct rfl rfl rfl rfl rfl, ?_⟩ | refine ⟨_, q_build_arr rfl rfl rfl rfl rfl, ?_⟩)) | (refine gSC ?_; first | refine sc_mv rfl ?_ | refine sc_q rfl ?_ | refine sc_region ?_) | (refine gSQ ?_; first | refine sq_go rfl ?_ | refine sq_mv rfl ?_ | refine sq_ende (by first | exact .inl rfl | exact .inr rfl) rfl rfl ⟨_, (RVs.cons (by first | exact RV.cell rfl rfl rfl (by (repeat constructor)) (by rfl) | exact RV.cellA rfl rfl rfl (by (repeat constructor)) (by rfl)) (RVs.nil)), ?_⟩) | refine j_nil ?_ | ((refine sc_cond rfl ?_ ?_) <;> intro hc <;> (first | exact absurd hc (by decide) | ((try simp only [engHC] at hc) <;> first | (exfalso; omega) | exact absurd trivial hc | skip))))
  (intro w' hS; refine ⟨?_, hS.below⟩; simp only [pack])
  rfl
/-- What was lent: a thing, and where the copy of its strings lies. -/
abbrev LqT := Tn × Addr × Nat
abbrev lqT (q : LqT) : Tn := reT q.1 (some q.2.1) q.2.2
abbrev iqT (q : LqT) : HA := .own (.slice (some q.2.1) (q.1.cd.length + 12) q.2.2) 9 1 (q.1.cd.length + 12) ((q.1.cd ++ mksX 12).flatMap strC)
set_option maxHeartbeats 16000000 in
theorem lentT_c (A : Option Addr) (c : Nat) (l : List Tn) (w : World) (hl : l.length ≤ 3000) (h : RS w 5 tnC A l) (hok : ∀ x ∈ l, okT w x) :
    Calls Try.prog 44 #[.slice A l.length c] w fun e w' => ∃ x : Addr × Nat × List LqT, (l.length + 12 ≤ x.2.1 ∧ x.2.2.reverse.map (·.1) = l ∧ ∀ q ∈ x.2.2, q.1.cd.length + 12 ≤ q.2.2) ∧ e = .returned (.slice (some x.1) l.length x.2.1) ∧ St w Cold (.own (.slice (some x.1) (l.length + 12) x.2.1) 122 5 (l.length + 12) ((x.2.2.reverse.map lqT ++ mksT 12).flatMap tnC) :: x.2.2.map iqT) w' := by
  obtain ⟨n, hn⟩ : ∃ n, l.length = n := ⟨_, rfl⟩
  rw [hn] at hl ⊢
  refine eng_start (n := 39) (args := [.slice A n c]) tab tab_ok fns fns_ok [.tmp 2] Try.func44 rfl rfl rfl rfl ?_
  repeat' (first | (refine gJ ?_; first | refine js rfl rfl rfl rfl ?_ | (refine gload rfl rfl ?_; refine j_qe rfl rfl rfl ?_; first | refine ⟨_, q_load_own rfl rfl rfl rfl (by (repeat constructor)) (by first | rfl | assumption), ?_⟩ | refine ⟨_, q_loadA_own rfl rfl rfl rfl (by (repeat constructor)) (by rfl), ?_⟩ | refine ⟨_, q_loadA_ext rfl rfl rfl rfl ⟨by assumption, (by first | exact id | assumption)⟩ (by rfl), ?_⟩ | refine ⟨_, q_load_ext rfl rfl rfl rfl ⟨by assumption, (by first | exact id | assumption)⟩ (by first | rfl | assumption), ?_⟩ | refine ⟨_, q_load_extb rfl rfl rfl rfl ⟨by assumption, (by first | exact id | assumption)⟩ (by rfl), ?_⟩ | refine ⟨_, q_loadA_extb rfl rfl rfl rfl ⟨by assumption, (by first | exact id | assumption)⟩ (by rfl), ?_⟩ | refine ⟨_, q_load_ext0 rfl rfl rfl rfl ⟨by assumption, (by first | exact id | assumption)⟩ (by rfl), ?_⟩) | refine jar rfl rfl rfl rfl rfl rfl rfl (by omega) ?_ | (refine gF ?_; refine j_make0 rfl rfl rfl rfl rfl rfl rfl rfl rfl ⟨by omega, by omega⟩ ?_; intro b1) | (refine gF ?_; first | refine j_store rfl rfl rfl rfl rfl rfl rfl rfl (by (repeat constructor)) (by rfl) ?_ | (refine j_alloc rfl rfl rfl rfl rfl ?_; intro b) | (refine j_buildSlice rfl rfl rfl rfl rfl rfl rfl rfl rfl rfl rfl rfl ?_; intro b) | (refine j_append rfl rfl rfl rfl rfl rfl rfl rfl rfl rfl rfl (by (repeat constructor)) (by (repeat constructor)) (by rfl) (by rfl) (by omega) (fun _ => by (repeat constructor)) ?_; intro v)) | (refine j_qe rfl rfl rfl ?_; first | refine ⟨_, q_index_nat rfl rfl rfl rfl rfl (by omega), ?_⟩ | refine ⟨_, q_index_slice rfl rfl rfl rfl rfl (by omega), ?_⟩ | refine ⟨_, q_index_arr rfl rfl rfl rfl rfl (by omega), ?_⟩ | refine ⟨_, q_index_arr_ext rfl rfl rfl rfl rfl (by omega), ?_⟩ | refine ⟨_, q_len_slice rfl rfl rfl rfl, ?_⟩ | refine ⟨_, q_addu8 rfl rfl rfl (by omega), ?_⟩)) | (refine gSC ?_; first | refine sc_mv rfl ?_ | refine sc_q rfl ?_ | refine sc_region ?_) | (refine gSQ ?_; first | refine sq_go rfl ?_ | refine sq_mv rfl ?_ | refine sq_ende (by first | exact .inl rfl | exact .inr rfl) rfl rfl ⟨_, (RVs.cons (RV.tmp rfl) (RVs.nil)), ?_⟩) | refine j_nil ?_ | ((refine sc_cond rfl ?_ ?_) <;> intro hc <;> (first | exact absurd hc (by decide) | ((try simp only [engHC] at hc) <;> first | (exfalso; omega) | exact absurd trivial hc | skip))))
  refine sc_loop (ι := Nat × Value × List LqT) (fun i => i.1 ≤ n ∧ i.2.2.reverse.map (·.1) = l.take i.1 ∧ ∀ q ∈ i.2.2, q.1.cd.length + 12 ≤ q.2.2) (fun i => n - i.1) (fun i => [(0, .slice A n c), (3, i.2.1), (4, .int .i64 i.1)]) (fun i => .own i.2.1 122 5 i.1 ((i.2.2.reverse.map lqT).flatMap tnC) :: i.2.2.map iqT) (0, .slice (some ⟨b1, 0, none⟩) 0 ((n : Int) + 12).toNat, []) ⟨Nat.zero_le _, rfl, fun q hq => by cases hq⟩ (by (try dsimp only); exact (by repeat (first | exact FSub.nil | refine FSub.cons rfl ?_ | refine FSub.conse rfl (by congr 1; omega) ?_))) (by repeat (first | exact LSub.refl | refine LSub.cons (by repeat (first | exact Rem.here | apply Rem.there)) ?_ | apply LSub.skip)) ?_
  rintro ⟨i, v0, Q⟩ ⟨hi, hQ, hcap⟩
  dsimp only at hi hQ hcap ⊢
  by_cases hlt : i < n
  · obtain ⟨x, hx⟩ : ∃ x, l[i]? = some x := ⟨_, List.getElem?_eq_getElem (by omega)⟩
    obtain ⟨ad, rfl, hX⟩ := h i x hx
    have hox := hok x (List.mem_of_getElem? hx)
    have hl1 := fun w' (h : okT w' x) => lent1T_c x w' h
    repeat' (first | (refine gJ ?_; first | refine js rfl rfl rfl rfl ?_ | (refine gload rfl rfl ?_; refine j_qe rfl rfl rfl ?_; first | refine ⟨_, q_load_own rfl rfl rfl rfl (by (repeat constructor)) (by first | rfl | assumption), ?_⟩ | refine ⟨_, q_loadA_own rfl rfl rfl rfl (by (repeat constructor)) (by rfl), ?_⟩ | refine ⟨_, q_loadA_ext rfl rfl rfl rfl ⟨by assumption, (by first | exact id | assumption)⟩ (by rfl), ?_⟩ | refine ⟨_, q_load_ext rfl rfl rfl rfl ⟨by assumption, (by first | exact id | assumption)⟩ (by first | rfl | assumption), ?_⟩ | refine ⟨_, q_load_extb rfl rfl rfl rfl ⟨by assumption, (by first | exact id | assumption)⟩ (by rfl), ?_⟩ | refine ⟨_, q_loadA_extb rfl rfl rfl rfl ⟨by assumption, (by first | exact id | assumption)⟩ (by rfl), ?_⟩ | refine ⟨_, q_load_ext0 rfl rfl rfl rfl ⟨by assumption, (by first | exact id | assumption)⟩ (by rfl), ?_⟩) | refine jar rfl rfl rfl rfl rfl rfl rfl (by omega) ?_ | (refine gcall rfl rfl ?_; refine gF ?_; refine j_callN (f := 71) rfl rfl rfl rfl rfl rfl rfl (fun p : Addr × Nat => tnV (reT x (some p.1) p.2)) (fun p => x.cd.length + 12 ≤ p.2) (fun p => [iqT (x, p)]) (fun w' hs => hl1 w' (hox.st hs)) (fun _ => trivial) ?_; rintro p hp) | (refine gF ?_; refine j_append rfl rfl rfl rfl rfl rfl rfl rfl rfl rfl rfl (by (repeat constructor)) (by (repeat constructor)) (by rfl) (by rfl) (by omega) (fun _ => by (repeat constructor)) ?_; intro v) | (refine gF ?_; first | refine j_store rfl rfl rfl rfl rfl rfl rfl rfl (by (repeat constructor)) (by rfl) ?_ | (refine j_alloc rfl rfl rfl rfl rfl ?_; intro b) | (refine j_buildSlice rfl rfl rfl rfl rfl rfl rfl rfl rfl rfl rfl rfl ?_; intro b) | (refine j_append rfl rfl rfl rfl rfl rfl rfl rfl rfl rfl rfl (by (repeat constructor)) (by (repeat constructor)) (by rfl) (by rfl) (by omega) (fun _ => by (repeat constructor)) ?_; intro v)) | (refine j_qe rfl rfl rfl ?_; first | refine ⟨_, q_index_nat rfl rfl rfl rfl rfl (by omega), ?_⟩ | refine ⟨_, q_index_slice rfl rfl rfl rfl rfl (by omega), ?_⟩ | refine ⟨_, q_index_arr rfl rfl rfl rfl rfl (by omega), ?_⟩ | refine ⟨_, q_index_arr_ext rfl rfl rfl rfl rfl (by omega), ?_⟩ | refine ⟨_, q_len_slice rfl rfl rfl rfl, ?_⟩ | refine ⟨_, q_addu8 rfl rfl rfl (by omega), ?_⟩)) | (refine gSC ?_; first | refine sc_mv rfl ?_ | refine sc_q rfl ?_ | refine sc_region ?_) | (refine gSQ ?_; first | refine sq_go rfl ?_ | refine sq_mv rfl ?_ | refine sq_ende (by first | exact .inl rfl | exact .inr rfl) rfl rfl ⟨_, (RVs.cons (RV.tmp rfl) (RVs.nil)), ?_⟩) | refine j_nil ?_ | ((refine sc_cond rfl ?_ ?_) <;> intro hc <;> (first | exact absurd hc (by decide) | ((try simp only [engHC] at hc) <;> first | (exfalso; omega) | exact absurd trivial hc | skip))))
    refine sq_loop (i + 1, v, (x, p) :: Q) ⟨?_, ?_, ?_⟩ ?_ ?_ ?_
    · show i + 1 ≤ n; omega
    · dsimp only
      rw [List.reverse_cons, List.map_append, hQ, List.take_add_one, hx]
      rfl
    · intro q hq
      rcases List.mem_cons.1 hq with e | hq
      · subst e; exact hp
      · exact hcap q hq
    · show n - (i + 1) < n - i; omega
    · exact (by (try dsimp only); exact (by repeat (first | exact FSub.nil | refine FSub.cons rfl ?_ | refine FSub.conse rfl (by congr 1; omega) ?_)))
    · dsimp only
      rw [List.reverse_cons, List.map_append, List.flatMap_append]
      exact (by repeat (first | exact LSub.refl | refine LSub.cons (by repeat (first | exact Rem.here | apply Rem.there)) ?_ | apply LSub.skip))
  obtain rfl : i = n := by omega
  rw [List.take_of_length_le (by omega)] at hQ
  repeat' (first | (refine gJ ?_; first | refine js rfl rfl rfl rfl ?_ | (refine gload rfl rfl ?_; refine j_qe rfl rfl rfl ?_; first | refine ⟨_, q_load_own rfl rfl rfl rfl (by (repeat constructor)) (by first | rfl | assumption), ?_⟩ | refine ⟨_, q_loadA_own rfl rfl rfl rfl (by (repeat constructor)) (by rfl), ?_⟩ | refine ⟨_, q_loadA_ext rfl rfl rfl rfl ⟨by assumption, (by first | exact id | assumption)⟩ (by rfl), ?_⟩ | refine ⟨_, q_load_ext rfl rfl rfl rfl ⟨by assumption, (by first | exact id | assumption)⟩ (by first | rfl | assumption), ?_⟩ | refine ⟨_, q_load_extb rfl rfl rfl rfl ⟨by assumption, (by first | exact id | assumption)⟩ (by rfl), ?_⟩ | refine ⟨_, q_loadA_extb rfl rfl rfl rfl ⟨by assumption, (by first | exact id | assumption)⟩ (by rfl), ?_⟩ | refine ⟨_, q_load_ext0 rfl rfl rfl rfl ⟨by assumption, (by first | exact id | assumption)⟩ (by rfl), ?_⟩) | refine jar rfl rfl rfl rfl rfl rfl rfl (by omega) ?_ | (refine gF ?_; first | refine j_store rfl rfl rfl rfl rfl rfl rfl rfl (by (repeat constructor)) (by rfl) ?_ | (refine j_alloc rfl rfl rfl rfl rfl ?_; intro b) | (refine j_buildSlice rfl rfl rfl rfl rfl rfl rfl rfl rfl rfl rfl rfl ?_; intro b) | (refine j_append rfl rfl rfl rfl rfl rfl rfl rfl rfl rfl rfl (by (repeat constructor)) (by (repeat constructor)) (by rfl) (by rfl) (by omega) (fun _ => by (repeat constructor)) ?_; intro v)) | (refine j_qe rfl rfl rfl ?_; first | refine ⟨_, q_index_nat rfl rfl rfl rfl rfl (by omega), ?_⟩ | refine ⟨_, q_index_slice rfl rfl rfl rfl rfl (by omega), ?_⟩ | refine ⟨_, q_index_arr rfl rfl rfl rfl rfl (by omega), ?_⟩ | refine ⟨_, q_index_arr_ext rfl rfl rfl rfl rfl (by omega), ?_⟩ | refine ⟨_, q_len_slice rfl rfl rfl rfl, ?_⟩ | refine ⟨_, q_addu8 rfl rfl rfl (by omega), ?_⟩)) | (refine gSC ?_; first | refine sc_mv rfl ?_ | refine sc_q rfl ?_ | refine sc_region ?_) | (refine gSQ ?_; first | refine sq_go rfl ?_ | refine sq_mv rfl ?_ | refine sq_ende (by first | exact .inl rfl | exact .inr rfl) rfl rfl ⟨_, (RVs.cons (RV.tmp rfl) (RVs.nil)), ?_⟩) | refine j_nil ?_ | ((refine sc_cond rfl ?_ ?_) <;> intro hc <;> (first | exact absurd hc (by decide) | ((try simp only [engHC] at hc) <;> first | (exfalso; omega) | exact absurd trivial hc | skip))))
  have hlq : (Q.reverse.map lqT).length = i := by
    have h9 := congrArg List.length hQ
    rw [List.length_map] at h9
    rw [List.length_map]
    omega
  refine sc_loop (ι := Nat × Value) (fun j => j.1 ≤ 12) (fun j => 12 - j.1) (fun j => [(0, .slice A i c), (3, j.2), (6, .int .i64 j.1)]) (fun j => .own j.2 122 5 (i + j.1) ((Q.reverse.map lqT ++ mksT j.1).flatMap tnC) :: Q.map iqT) (0, v0) (Nat.zero_le _) (by (try dsimp only); exact (by repeat (first | exact FSub.nil | refine FSub.cons rfl ?_ | refine FSub.conse rfl (by congr 1; omega) ?_))) ?_ ?_
  · dsimp only
    rw [show mksT 0 = [] from rfl, List.append_nil, Nat.add_zero]
    exact (by repeat (first | exact LSub.refl | refine LSub.cons (by repeat (first | exact Rem.here | apply Rem.there)) ?_ | apply LSub.skip))
  rintro ⟨j, v1⟩ hj
  dsimp only at hj ⊢
  by_cases hlt2 : j < 12
  · have e1 : (Q.reverse.map lqT ++ mksT j).flatMap tnC ++ tnC (mkT j) = (Q.reverse.map lqT ++ mksT (j + 1)).flatMap tnC := by
      simp only [mksT]
      rw [← List.append_assoc, List.flatMap_append (xs := Q.reverse.map lqT ++ mksT j)]
      simp
    repeat' (first | (refine gJ ?_; first | refine js rfl rfl rfl rfl ?_ | (refine gload rfl rfl ?_; refine j_qe rfl rfl rfl ?_; first | refine ⟨_, q_load_own rfl rfl rfl rfl (by (repeat constructor)) (by first | rfl | assumption), ?_⟩ | refine ⟨_, q_loadA_own rfl rfl rfl rfl (by (repeat constructor)) (by rfl), ?_⟩ | refine ⟨_, q_loadA_ext rfl rfl rfl rfl ⟨by assumption, (by first | exact id | assumption)⟩ (by rfl), ?_⟩ | refine ⟨_, q_load_ext rfl rfl rfl rfl ⟨by assumption, (by first | exact id | assumption)⟩ (by first | rfl | assumption), ?_⟩ | refine ⟨_, q_load_extb rfl rfl rfl rfl ⟨by assumption, (by first | exact id | assumption)⟩ (by rfl), ?_⟩ | refine ⟨_, q_loadA_extb rfl rfl rfl rfl ⟨by assumption, (by first | exact id | assumption)⟩ (by rfl), ?_⟩ | refine ⟨_, q_load_ext0 rfl rfl rfl rfl ⟨by assumption, (by first | exact id | assumption)⟩ (by rfl), ?_⟩) | refine jar rfl rfl rfl rfl rfl rfl rfl (by omega) ?_ | (refine gcall rfl rfl ?_; first | (refine j_qc (f := 72) rfl rfl rfl rfl rfl rfl rfl ?_; refine ⟨_, (fun w' _ => markT_c j w' (by omega)), ?_⟩)) | (refine gF ?_; refine j_append (xs := (Q.reverse.map lqT ++ mksT j).flatMap tnC) rfl rfl rfl rfl rfl rfl rfl rfl rfl rfl rfl (by (repeat constructor)) (by (repeat constructor)) (by rfl) (by rfl) (by omega) (fun _ => by (repeat constructor)) ?_; intro v) | (refine gF ?_; first | refine j_store rfl rfl rfl rfl rfl rfl rfl rfl (by (repeat constructor)) (by rfl) ?_ | (refine j_alloc rfl rfl rfl rfl rfl ?_; intro b) | (refine j_buildSlice rfl rfl rfl rfl rfl rfl rfl rfl rfl rfl rfl rfl ?_; intro b) | (refine j_append rfl rfl rfl rfl rfl rfl rfl rfl rfl rfl rfl (by (repeat constructor)) (by (repeat constructor)) (by rfl) (by rfl) (by omega) (fun _ => by (repeat constructor)) ?_; intro v)) | (refine j_qe rfl rfl rfl ?_; first | refine ⟨_, q_index_nat rfl rfl rfl rfl rfl (by omega), ?_⟩ | refine ⟨_, q_index_slice rfl rfl rfl rfl rfl (by omega), ?_⟩ | refine ⟨_, q_index_arr rfl rfl rfl rfl rfl (by omega), ?_⟩ | refine ⟨_, q_index_arr_ext rfl rfl rfl rfl rfl (by omega), ?_⟩ | refine ⟨_, q_len_slice rfl rfl rfl rfl, ?_⟩ | refine ⟨_, q_addu8 rfl rfl rfl (by omega), ?_⟩)) | (refine gSC ?_; first | refine sc_mv rfl ?_ | refine sc_q rfl ?_ | refine sc_region ?_) | (refine gSQ ?_; first | refine sq_go rfl ?_ | refine sq_mv rfl ?_ | refine sq_ende (by first | exact .inl rfl | exact .inr rfl) rfl rfl ⟨_, (RVs.cons (RV.tmp rfl) (RVs.nil)), ?_⟩) | refine j_nil ?_ | ((refine sc_cond rfl ?_ ?_) <;> intro hc <;> (first | exact absurd hc (by decide) | ((try simp only [engHC] at hc) <;> first | (exfalso; omega) | exact absurd trivial hc | skip))))
    refine sq_loop (j + 1, v) (by show j + 1 ≤ 12; omega) (by show 12 - (j + 1) < 12 - j; omega) (by (try dsimp only); exact (by repeat (first | exact FSub.nil | refine FSub.cons rfl ?_ | refine FSub.conse rfl (by congr 1; omega) ?_))) ?_
    dsimp only
    rw [← e1]
    exact (by repeat (first | exact LSub.refl | refine LSub.cons (by repeat (first | exact Rem.here | apply Rem.there)) ?_ | apply LSub.skip))
  obtain rfl : j = 12 := by omega
  refine sc_ownq (v := v1) (by (repeat constructor)) (by omega) ?_
  rintro ad c2 rfl hc2
  repeat' (first | (refine gJ ?_; first | refine js rfl rfl rfl rfl ?_ | (refine gload rfl rfl ?_; refine j_qe rfl rfl rfl ?_; first | refine ⟨_, q_load_own rfl rfl rfl rfl (by (repeat constructor)) (by first | rfl | assumption), ?_⟩ | refine ⟨_, q_loadA_own rfl rfl rfl rfl (by (repeat constructor)) (by rfl), ?_⟩ | refine ⟨_, q_loadA_ext rfl rfl rfl rfl ⟨by assumption, (by first | exact id | assumption)⟩ (by rfl), ?_⟩ | refine ⟨_, q_load_ext rfl rfl rfl rfl ⟨by assumption, (by first | exact id | assumption)⟩ (by first | rfl | assumption), ?_⟩ | refine ⟨_, q_load_extb rfl rfl rfl rfl ⟨by assumption, (by first | exact id | assumption)⟩ (by rfl), ?_⟩ | refine ⟨_, q_loadA_extb rfl rfl rfl rfl ⟨by assumption, (by first | exact id | assumption)⟩ (by rfl), ?_⟩ | refine ⟨_, q_load_ext0 rfl rfl rfl rfl ⟨by assumption, (by first | exact id | assumption)⟩ (by rfl), ?_⟩) | refine jar rfl rfl rfl rfl rfl rfl rfl (by omega) ?_ | (refine j_qe rfl rfl rfl ?_; refine ⟨_, q_sliceHi i rfl rfl rfl rfl rfl (by omega), ?_⟩) | (refine gF ?_; first | refine j_store rfl rfl rfl rfl rfl rfl rfl rfl (by (repeat constructor)) (by rfl) ?_ | (refine j_alloc rfl rfl rfl rfl rfl ?_; intro b) | (refine j_buildSlice rfl rfl rfl rfl rfl rfl rfl rfl rfl rfl rfl rfl ?_; intro b) | (refine j_append rfl rfl rfl rfl rfl rfl rfl rfl rfl rfl rfl (by (repeat constructor)) (by (repeat constructor)) (by rfl) (by rfl) (by omega) (fun _ => by (repeat constructor)) ?_; intro v)) | (refine j_qe rfl rfl rfl ?_; first | refine ⟨_, q_index_nat rfl rfl rfl rfl rfl (by omega), ?_⟩ | refine ⟨_, q_index_slice rfl rfl rfl rfl rfl (by omega), ?_⟩ | refine ⟨_, q_index_arr rfl rfl rfl rfl rfl (by omega), ?_⟩ | refine ⟨_, q_index_arr_ext rfl rfl rfl rfl rfl (by omega), ?_⟩ | refine ⟨_, q_len_slice rfl rfl rfl rfl, ?_⟩ | refine ⟨_, q_addu8 rfl rfl rfl (by omega), ?_⟩)) | (refine gSC ?_; first | refine sc_mv rfl ?_ | refine sc_q rfl ?_ | refine sc_region ?_) | (refine gSQ ?_; first | refine sq_go rfl ?_ | refine sq_mv rfl ?_ | refine sq_ende (by first | exact .inl rfl | exact .inr rfl) rfl rfl ⟨_, (RVs.cons (RV.tmp rfl) (RVs.nil)), ?_⟩) | refine j_nil ?_ | ((refine sc_cond rfl ?_ ?_) <;> intro hc <;> (first | exact absurd hc (by decide) | ((try simp only [engHC] at hc) <;> first | (exfalso; omega) | exact absurd trivial hc | skip))))
  intro w' hS
  exact ⟨(ad, c2, Q), ⟨hc2, hQ, hcap⟩, rfl, hS⟩
end Go.Proofs.Ytbejfbekamikpaa
