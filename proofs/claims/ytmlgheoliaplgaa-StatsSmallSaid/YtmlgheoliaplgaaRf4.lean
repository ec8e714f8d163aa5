/-
  The reference: limbs.
-/
import Derived.Test.YtmlgheoliaplgaaRf1
import Derived.Test.YtmlgheoliaplgaaEngLend
namespace Go.Proofs.Ytmlgheoliaplgaa
open Go.RowKit Eng
set_option linter.unusedVariables false
set_option linter.unusedSimpArgs false
attribute [local irreducible] SC SQ J Qt Calls Iterates
/-- One round of a division: what is left of the lower digits, the digits made so far, the rest. -/
def divI (r0 r : List Nat) (j left : Nat) : Prop := ∃ q, r = r0.take j ++ q ∧ q.length + j = r0.length ∧ inD q ∧ left < 65536 ∧ vd q * 65536 + left = vd (r0.drop j)
theorem drop_consN {l : List Nat} {k x : Nat} (h : l[k]? = some x) : l.drop k = x :: l.drop (k + 1) := by
  rw [List.drop_eq_getElem_cons (List.getElem?_eq_some_iff.1 h).1]
  congr 1
  have := (List.getElem?_eq_some_iff.1 h).2
  exact this
theorem div_lem {a l d b : Nat} (h : a * 65536 + l = b) (hl : l < 65536) (hd : d < 10000) : ((l * 10000 + d) / 65536 + 10000 * a) * 65536 + (l * 10000 + d) % 65536 = d + 10000 * b := by
  subst h
  have := Nat.div_add_mod (l * 10000 + d) 65536
  generalize (l * 10000 + d) / 65536 = x at *
  generalize (l * 10000 + d) % 65536 = y at *
  omega
theorem divI_step {r0 r : List Nat} {j left d : Nat} (h : divI r0 r (j + 1) left) (hd : r0[j]? = some d) (hr0 : inD r0) : r[j]? = some d ∧ divI r0 (r.set j ((left * 10000 + d) / 65536)) j ((left * 10000 + d) % 65536) := by
  obtain ⟨q, rfl, hl, hq, hlt, hv⟩ := h
  have hj : j < r0.length := by omega
  have htl : (r0.take (j + 1)).length = j + 1 := by rw [List.length_take]; omega
  have hd10 := hr0 d (List.mem_of_getElem? hd)
  refine ⟨by rw [List.getElem?_append_left (by omega), List.getElem?_take, if_pos (by omega)]; exact hd, (left * 10000 + d) / 65536 :: q, ?_, by simp; omega, fun x hx => ?_, by omega, ?_⟩
  · rw [List.set_append_left _ _ (by omega), List.take_add_one, hd]
    have : (r0.take j).length = j := by rw [List.length_take]; omega
    show (r0.take j ++ [d]).set j _ ++ q = _
    rw [List.set_append_right _ _ (by omega), this, Nat.sub_self, List.append_assoc]
    rfl
  · rcases List.mem_cons.1 hx with rfl | hx
    · omega
    · exact hq x hx
  · rw [drop_consN hd]
    exact div_lem hv hlt hd10
theorem divI_end {r0 r : List Nat} {left : Nat} (h : divI r0 r 0 left) : r.length = r0.length ∧ inD r ∧ left < 65536 ∧ vd r * 65536 + left = vd r0 := by
  obtain ⟨q, rfl, hl, hq, hlt, hv⟩ := h
  simp only [List.take_zero, List.nil_append, List.drop_zero, Nat.add_zero] at *
  exact ⟨hl, hq, hlt, hv⟩
/-- What has been taken out. -/
def outI (a V : Nat) : Bool → List Int → Prop
  | true, o => inB o ∧ vl o + 4294967296 ^ o.length * (V : Int) = a
  | false, o => ∃ o' x, o = o' ++ [x] ∧ inB o' ∧ (0 ≤ x ∧ x < 65536) ∧ vl o' + 4294967296 ^ o'.length * (x + 65536 * (V : Int)) = a
theorem outI_low {a V r left : Nat} {o : List Int} (h : outI a V true o) (hl : left < 65536) (hv : r * 65536 + left = V) : outI a r false (o ++ [(left : Int)]) := by
  refine ⟨o, left, rfl, h.1, by omega, ?_⟩
  rw [← h.2]
  congr 2
  omega
theorem outI_high {a V r left : Nat} {o : List Int} (h : outI a V false o) (hl : left < 65536) (hv : r * 65536 + left = V) : ∃ o' x, o = o' ++ [x] ∧ (0 ≤ x ∧ x < 65536) ∧ outI a r true (o' ++ [x + (left : Int) * 65536]) := by
  obtain ⟨o', x, rfl, h1, h2, h3⟩ := h
  refine ⟨o', x, rfl, h2, inB_app.2 ⟨h1, inB_cons.2 ⟨by omega, inB_nil⟩⟩, ?_⟩
  rw [← h3, vl_app, List.length_append, List.length_singleton, Int.pow_succ, Int.mul_assoc, Int.add_assoc, ← Int.mul_add]
  congr 2
  simp only [vl]
  omega
theorem outI_end {a : Nat} : ∀ {b : Bool} {o : List Int}, outI a 0 b o → inB o ∧ vl o = a
  | true, o, h => ⟨h.1, by simpa using h.2⟩
  | false, o, h => by
    obtain ⟨o', x, rfl, h1, h2, h3⟩ := h
    refine ⟨inB_app.2 ⟨h1, inB_cons.2 ⟨by omega, inB_nil⟩⟩, ?_⟩
    rw [← h3, vl_app, vl, vl, Int.mul_zero, Int.add_zero, Int.natCast_zero, Int.mul_zero, Int.add_zero]
theorem outI_len {a V : Nat} {o : List Int} (h : outI a V false o) : 0 < o.length := by
  obtain ⟨o', x, rfl, _⟩ := h
  simp
theorem pow_below {k n : Nat} {a : Nat} (h1 : (4294967296 : Int) ^ k ≤ a) (h2 : (a : Int) < 4294967296 ^ n) : k < n := by
  rcases Nat.lt_or_ge k n with h | h
  · exact h
  · exfalso
    have h3 : (4294967296 : Int) ^ n ≤ 4294967296 ^ k := by
      have := Int.ofNat_le.2 (Nat.pow_le_pow_right (n := 4294967296) (by omega) h)
      rw [Int.natCast_pow, Int.natCast_pow] at this
      exact this
    omega
theorem out_bound {a V : Nat} {b : Bool} {o : List Int} (h : outI a V b o) (hV : 0 < V) : o.length ≤ (limbs a).length := by
  have h2 := vl_lt (limbs_in a)
  rw [limbs_vl] at h2
  have key : ∀ (k : Nat) (x y : Int), 0 ≤ y → 1 ≤ x → y + 4294967296 ^ k * x = a → k < (limbs a).length := fun k x y hy hx he => by
    refine pow_below (a := a) ?_ h2
    have h3 : (4294967296 : Int) ^ k * 1 ≤ 4294967296 ^ k * x := Int.mul_le_mul_of_nonneg_left hx (Int.le_of_lt (Int.pow_pos (by omega)))
    rw [Int.mul_one] at h3
    omega
  cases b with
  | true => exact Nat.le_of_lt (key o.length V (vl o) (vl_nonneg h.1) (by omega) h.2)
  | false =>
    obtain ⟨o', x, rfl, h3, h4, h5⟩ := h
    have := key o'.length (x + 65536 * (V : Int)) (vl o') (vl_nonneg h3) (by omega) h5
    simp
    omega
theorem st_trimN {w0 w : World} {hot : Nat → Prop} {L : List HA} {A : Option Addr} {c P : Nat} {o : List Int} (hs : St w0 hot L w) (hin : InL L (.own (.slice A o.length c) 55 1 o.length (o.flatMap u32C))) (hP : trimL o = limbs P) :
    St w0 hot [haN (.slice A (limbs P).length c) P] w := by
  have hs1 : St w0 hot [.own (.slice A o.length c) 55 1 o.length (o.flatMap u32C)] w := ⟨hs.near, fun x hx => by rw [List.mem_singleton] at hx; subst hx; exact hs.at hin, List.pairwise_singleton _ _⟩
  have hsl := sl_own hs hin
  obtain ⟨htk, hle⟩ := trim_take o
  rw [hP] at hle htk
  cases A with
  | none =>
    have h0 := (hsl.nil rfl).1
    have ho : o = [] := List.length_eq_zero_iff.1 h0
    have hd : limbs P = [] := by rw [htk, ho]; simp
    rw [ho] at hs1
    show St w0 hot [.own (.slice none (limbs P).length c) 55 1 (limbs P).length ((limbs P).flatMap u32C)] w
    rw [hd]
    exact hs1
  | some ad =>
    have h1 := take_own hs1 InL.here hle (L' := [.own (.slice (some ad) (limbs P).length c) 55 1 (limbs P).length ((o.flatMap u32C).take ((limbs P).length * 1))]) Upd.here
    rw [flat_take, ← htk] at h1
    exact h1
set_option maxRecDepth 4000 in
set_option maxHeartbeats 8000000 in
theorem limbs_r (A : Option Addr) (c a : Nat) (w : World) (hmax : (dg a).length ≤ 1000000) (hcap : (limbs a).length ≤ 100000) (hA : SD w A c a) :
    Calls Try.prog 70 #[.slice A (dg a).length c] w fun e w' => ∃ v : Value, True ∧ e = .returned v ∧ St w Cold [haN v a] w' := by
  have hob0 := fun V b o => out_bound (a := a) (V := V) (b := b) (o := o)
  have htl0 : ∀ o, inB o → vl o = a → trimL o = limbs a := fun o h1 h2 => trim_limbs h1 h2
  have hre := fun w' (h : SD w' A c a) => reads_ext (f := natC) (sz := 1) (fun _ => rfl) (fun _ => rfl) h.rs (fun e => ⟨List.length_eq_zero_iff.1 (h.sl.nil e).1, (h.sl.nil e).2⟩)
  have hin0 := dg_in a
  have hv0 := vd_dg a
  obtain ⟨r00, hr00⟩ : ∃ r, dg a = r := ⟨_, rfl⟩
  rw [hr00] at hre hmax hin0 hv0 ⊢
  obtain ⟨m, hm⟩ : ∃ m, r00.length = m := ⟨_, rfl⟩
  rw [hm] at hre hmax ⊢
  refine eng_start (n := 77) (args := [.slice A m c]) tab tab_ok fns fns_ok [.tmp 2] Try.func70 rfl rfl rfl rfl ?_
  repeat' (first
   | (refine gJ ?_
      first
      | refine jmv rfl rfl rfl rfl rfl ?_
      | (refine gload rfl rfl ?_
         refine j_qe rfl rfl rfl ?_
         first
         | refine ⟨_, q_load_own rfl rfl rfl rfl (by (repeat (first | exact InL.here | apply InL.there))) (by first | rfl | assumption), ?_⟩
         | refine ⟨_, q_loadA_own rfl rfl rfl rfl (by (repeat (first | exact InL.here | apply InL.there))) (by rfl), ?_⟩
         | refine ⟨_, q_loadA_ext rfl rfl rfl rfl ⟨by assumption, (by first | exact id | assumption)⟩ (by rfl), ?_⟩
         | refine ⟨_, q_load_ext rfl rfl rfl rfl ⟨by assumption, (by first | exact id | assumption)⟩ (by first | rfl | assumption), ?_⟩
         | refine ⟨_, q_load_extb rfl rfl rfl rfl ⟨by assumption, (by first | exact id | assumption)⟩ (by rfl), ?_⟩
         | refine ⟨_, q_loadA_extb rfl rfl rfl rfl ⟨by assumption, (by first | exact id | assumption)⟩ (by rfl), ?_⟩
         | refine ⟨_, q_load_ext0 rfl rfl rfl rfl ⟨by assumption, (by first | exact id | assumption)⟩ (by rfl), ?_⟩)
      | refine jcmp rfl rfl rfl rfl rfl rfl rfl ?_
      | refine jar rfl rfl rfl rfl rfl rfl rfl (by omega) ?_
      | (refine j_build0 rfl rfl rfl rfl rfl rfl ?_; intro b1)
      | (refine j_appendS (cs := r00.flatMap natC) (n := 0) (A := A) (k := m) (c := c) rfl rfl rfl rfl rfl rfl rfl rfl rfl rfl rfl (fun w' hs => hre w' (hA.st hs)) (by (repeat (first | exact InL.here | apply InL.there))) (by omega) (fun _ => by (repeat (first | exact Upd.here | apply Upd.there))) ?_; intro v9)
      | refine j_store rfl rfl rfl rfl rfl rfl rfl rfl (by (repeat (first | exact Upd.here | apply Upd.there))) (by rfl) ?_
      | (refine j_qe rfl rfl rfl ?_
         first
         | refine ⟨_, q_pick_t rfl rfl rfl, ?_⟩
         | refine ⟨_, q_pick_f rfl rfl rfl, ?_⟩
         | refine ⟨_, q_not rfl rfl, ?_⟩
         | refine ⟨_, q_index_nat rfl rfl rfl rfl rfl (by omega), ?_⟩
         | refine ⟨_, q_index_slice rfl rfl rfl rfl rfl (by omega), ?_⟩
         | refine ⟨_, q_index_arr rfl rfl rfl rfl rfl (by omega), ?_⟩
         | refine ⟨_, q_index_arr_ext rfl rfl rfl rfl rfl (by omega), ?_⟩
         | refine ⟨_, q_len_slice rfl rfl rfl rfl, ?_⟩
         | refine ⟨_, q_quo rfl rfl rfl (by omega), ?_⟩
         | refine ⟨_, q_rem rfl rfl rfl (by omega), ?_⟩
         | refine ⟨_, q_quot rfl rfl rfl (by omega), ?_⟩
         | refine ⟨_, q_remt rfl rfl rfl (by omega), ?_⟩
         | refine ⟨_, q_addu8 rfl rfl rfl (by omega), ?_⟩
         | refine ⟨_, q_quou8 rfl rfl rfl (by omega), ?_⟩
         | refine ⟨_, q_conv rfl rfl rfl rfl rfl rfl (by first | rfl | (exact i64_wrap (by omega) (by omega)) | (exact u8_wrap (by omega) (by omega)) | (exact u64_wrap (by omega) (by omega)) | (exact u16_wrap (by omega) (by omega))), ?_⟩)
      | refine j_guard_undef rfl rfl rfl rfl rfl ?_
      | (refine j_guard rfl rfl rfl rfl rfl ?_ ?_ <;> intro hc <;> (first | (exact absurd hc (by decide)) | ((try simp only [decide_eq_true_eq, decide_eq_false_iff_not, Bool.not_eq_true', Bool.not_eq_false', Bool.not_true, Bool.not_false, ne_eq, Decidable.not_not] at hc) <;> first | (exfalso; omega) | (exact absurd trivial hc) | skip)))
      | (refine j_buildSlice rfl rfl rfl rfl rfl rfl rfl rfl rfl rfl rfl rfl ?_; intro b)
      | (refine j_append rfl rfl rfl rfl rfl rfl rfl rfl rfl rfl rfl (by (repeat (first | exact InL.here | apply InL.there))) (by (repeat (first | exact InL.here | apply InL.there))) (by rfl) (by rfl) (by omega) (fun _ => by (repeat (first | exact Upd.here | apply Upd.there))) ?_; intro v))
   | (refine gSC ?_
      first
      | refine sc_seq ?_
      | refine sc_region ?_
      | (refine sc_cond rfl ?_ ?_ <;> intro hc <;> (first | (exact absurd hc (by decide)) | ((try simp only [decide_eq_true_eq, decide_eq_false_iff_not, Bool.not_eq_true', Bool.not_eq_false', Bool.not_true, Bool.not_false, ne_eq, Decidable.not_not] at hc) <;> first | (exfalso; omega) | (exact absurd trivial hc) | skip)))
      | refine sc_block ?_
      | refine sc_ret ?_
      | refine sc_exit ?_
      | refine sc_skip ?_)
   | (refine gSQ ?_
      first
      | refine sq_seq ?_
      | refine sq_blk ?_
      | refine sq_seq_ret ?_
      | refine sq_blk_ret ?_
      | refine sq_loop_ret ?_
      | refine sq_seq_exit ?_
      | refine sq_blk_hit ?_
      | refine sq_blk_miss rfl ?_
      | refine sq_loop_exit ?_
      | refine sq_ende (.inl rfl) rfl rfl ⟨_, (RVs.cons (RV.tmp rfl) (RVs.nil)), ?_⟩
      | refine sq_ende (.inr rfl) rfl rfl ⟨_, (RVs.cons (RV.tmp rfl) (RVs.nil)), ?_⟩)
   | refine j_nil ?_
   )
  refine sc_owns (v := v9) (n := 0 + m) (by (repeat (first | exact InL.here | apply InL.there))) ?_
  rintro A1 c1 rfl hs1
  rw [Nat.zero_add] at hs1
  refine sc_own_nil 55 1 ?_
  refine sc_loop (ι := List Nat × Bool × List Int × Value) (fun i => i.1.length = m ∧ inD i.1 ∧ outI a (vd i.1) i.2.1 i.2.2.1) (fun i => vd i.1) (fun i => [(3, i.2.2.2), (4, .bool i.2.1), (5, .slice A1 m c1)])
    (fun i => [.own i.2.2.2 55 1 i.2.2.1.length (i.2.2.1.flatMap u32C), .own (.slice A1 m c1) 3 1 m (i.1.flatMap natC)]) (r00, true, [], .slice none 0 0) ⟨hm, hin0, inB_nil, by simp [vl, hv0]⟩ (by repeat (first | exact FSub.nil | refine FSub.cons rfl ?_ | refine FSub.conse rfl (by congr 1; omega) ?_)) ?_ ?_
  · dsimp only
    have e1 : HA.own (.slice A1 (0 + m) c1) 3 1 (0 + m) ([] ++ r00.flatMap natC) = .own (.slice A1 m c1) 3 1 m (r00.flatMap natC) := by rw [Nat.zero_add, List.nil_append]
    rw [← e1]
    exact (by repeat (first | exact LSub.nil | refine LSub.cons (by repeat (first | exact Rem.here | apply Rem.there)) ?_))
  rintro ⟨r0, lo, o, ov⟩ ⟨hr0, hin, hout⟩
  dsimp only at hr0 hin hout ⊢
  have htr := trimD_dg r0 hin
  have htrim := fun w' h => trim_r A1 c1 r0 w' (by omega) (by rw [hr0]; exact hs1.le) h
  rw [htr, hr0] at htrim
  by_cases hz : vd r0 = 0
  · rw [hz, dg_zero] at htrim
    rw [hz] at hout
    obtain ⟨hob, hov⟩ := outI_end hout
    have htl := htl0 o hob hov
    have hln : (limbs a).length ≤ o.length := by rw [← htl]; exact (trim_take o).2
    refine sc_owns (v := ov) (by (repeat (first | exact InL.here | apply InL.there))) ?_
    rintro Ao co rfl hso
    repeat' (first
     | (refine gJ ?_
        first
        | refine jmv rfl rfl rfl rfl rfl ?_
        | (refine gload rfl rfl ?_
           refine j_qe rfl rfl rfl ?_
           first
           | refine ⟨_, q_load_own rfl rfl rfl rfl (by (repeat (first | exact InL.here | apply InL.there))) (by first | rfl | assumption), ?_⟩
           | refine ⟨_, q_loadA_own rfl rfl rfl rfl (by (repeat (first | exact InL.here | apply InL.there))) (by rfl), ?_⟩
           | refine ⟨_, q_loadA_ext rfl rfl rfl rfl ⟨by assumption, (by first | exact id | assumption)⟩ (by rfl), ?_⟩
           | refine ⟨_, q_load_ext rfl rfl rfl rfl ⟨by assumption, (by first | exact id | assumption)⟩ (by first | rfl | assumption), ?_⟩
           | refine ⟨_, q_load_extb rfl rfl rfl rfl ⟨by assumption, (by first | exact id | assumption)⟩ (by rfl), ?_⟩
           | refine ⟨_, q_loadA_extb rfl rfl rfl rfl ⟨by assumption, (by first | exact id | assumption)⟩ (by rfl), ?_⟩
           | refine ⟨_, q_load_ext0 rfl rfl rfl rfl ⟨by assumption, (by first | exact id | assumption)⟩ (by rfl), ?_⟩)
        | refine jcmp rfl rfl rfl rfl rfl rfl rfl ?_
        | refine jar rfl rfl rfl rfl rfl rfl rfl (by omega) ?_
        | (refine gcall rfl rfl ?_
           first
           | (refine j_qc (f := 83) rfl rfl rfl rfl rfl rfl rfl ?_; refine ⟨_, (fun w' hs => htrim w' (rs_own (fun _ => rfl) hs (by (repeat (first | exact InL.here | apply InL.there))) hr0.symm rfl)), ?_⟩))
        | refine j_store rfl rfl rfl rfl rfl rfl rfl rfl (by (repeat (first | exact Upd.here | apply Upd.there))) (by rfl) ?_
        | (refine j_qe rfl rfl rfl ?_
           first
           | refine ⟨_, q_pick_t rfl rfl rfl, ?_⟩
           | refine ⟨_, q_pick_f rfl rfl rfl, ?_⟩
           | refine ⟨_, q_not rfl rfl, ?_⟩
           | refine ⟨_, q_index_nat rfl rfl rfl rfl rfl (by omega), ?_⟩
           | refine ⟨_, q_index_slice rfl rfl rfl rfl rfl (by omega), ?_⟩
           | refine ⟨_, q_index_arr rfl rfl rfl rfl rfl (by omega), ?_⟩
           | refine ⟨_, q_index_arr_ext rfl rfl rfl rfl rfl (by omega), ?_⟩
           | refine ⟨_, q_len_slice rfl rfl rfl rfl, ?_⟩
           | refine ⟨_, q_quo rfl rfl rfl (by omega), ?_⟩
           | refine ⟨_, q_rem rfl rfl rfl (by omega), ?_⟩
           | refine ⟨_, q_quot rfl rfl rfl (by omega), ?_⟩
           | refine ⟨_, q_remt rfl rfl rfl (by omega), ?_⟩
           | refine ⟨_, q_addu8 rfl rfl rfl (by omega), ?_⟩
           | refine ⟨_, q_quou8 rfl rfl rfl (by omega), ?_⟩
           | refine ⟨_, q_conv rfl rfl rfl rfl rfl rfl (by first | rfl | (exact i64_wrap (by omega) (by omega)) | (exact u8_wrap (by omega) (by omega)) | (exact u64_wrap (by omega) (by omega)) | (exact u16_wrap (by omega) (by omega))), ?_⟩)
        | refine j_guard_undef rfl rfl rfl rfl rfl ?_
        | (refine j_guard rfl rfl rfl rfl rfl ?_ ?_ <;> intro hc <;> (first | (exact absurd hc (by decide)) | ((try simp only [decide_eq_true_eq, decide_eq_false_iff_not, Bool.not_eq_true', Bool.not_eq_false', Bool.not_true, Bool.not_false, ne_eq, Decidable.not_not] at hc) <;> first | (exfalso; omega) | (exact absurd trivial hc) | skip)))
        | (refine j_buildSlice rfl rfl rfl rfl rfl rfl rfl rfl rfl rfl rfl rfl ?_; intro b)
        | (refine j_append rfl rfl rfl rfl rfl rfl rfl rfl rfl rfl rfl (by (repeat (first | exact InL.here | apply InL.there))) (by (repeat (first | exact InL.here | apply InL.there))) (by rfl) (by rfl) (by omega) (fun _ => by (repeat (first | exact Upd.here | apply Upd.there))) ?_; intro v))
     | (refine gSC ?_
        first
        | refine sc_seq ?_
        | refine sc_region ?_
        | (refine sc_cond rfl ?_ ?_ <;> intro hc <;> (first | (exact absurd hc (by decide)) | ((try simp only [decide_eq_true_eq, decide_eq_false_iff_not, Bool.not_eq_true', Bool.not_eq_false', Bool.not_true, Bool.not_false, ne_eq, Decidable.not_not] at hc) <;> first | (exfalso; omega) | (exact absurd trivial hc) | skip)))
        | refine sc_block ?_
        | refine sc_ret ?_
        | refine sc_exit ?_
        | refine sc_skip ?_)
     | (refine gSQ ?_
        first
        | refine sq_seq ?_
        | refine sq_blk ?_
        | refine sq_seq_ret ?_
        | refine sq_blk_ret ?_
        | refine sq_loop_ret ?_
        | refine sq_seq_exit ?_
        | refine sq_blk_hit ?_
        | refine sq_blk_miss rfl ?_
        | refine sq_loop_exit ?_
        | refine sq_ende (.inl rfl) rfl rfl ⟨_, (RVs.cons (RV.tmp rfl) (RVs.nil)), ?_⟩
        | refine sq_ende (.inr rfl) rfl rfl ⟨_, (RVs.cons (RV.tmp rfl) (RVs.nil)), ?_⟩)
     | refine j_nil ?_
     )
    refine sc_loop (ι := Nat) (fun k => k ≤ o.length ∧ trimL (o.take k) = limbs a) (fun k => k) (fun k => [(3, .slice Ao k co)]) (fun _ => [.own (.slice Ao o.length co) 55 1 o.length (o.flatMap u32C)]) o.length ⟨Nat.le_refl _, by rw [List.take_of_length_le (Nat.le_refl _)]; exact htl⟩ (by repeat (first | exact FSub.nil | refine FSub.cons rfl ?_ | refine FSub.conse rfl (by congr 1; omega) ?_)) (by repeat (first | exact LSub.nil | refine LSub.cons (by repeat (first | exact Rem.here | apply Rem.there)) ?_)) ?_
    rintro k ⟨hk, hr⟩
    cases k with
    | zero =>
      repeat' (first
       | (refine gJ ?_
          first
          | refine jmv rfl rfl rfl rfl rfl ?_
          | (refine gload rfl rfl ?_
             refine j_qe rfl rfl rfl ?_
             first
             | refine ⟨_, q_load_own rfl rfl rfl rfl (by (repeat (first | exact InL.here | apply InL.there))) (by first | rfl | assumption), ?_⟩
             | refine ⟨_, q_loadA_own rfl rfl rfl rfl (by (repeat (first | exact InL.here | apply InL.there))) (by rfl), ?_⟩
             | refine ⟨_, q_loadA_ext rfl rfl rfl rfl ⟨by assumption, (by first | exact id | assumption)⟩ (by rfl), ?_⟩
             | refine ⟨_, q_load_ext rfl rfl rfl rfl ⟨by assumption, (by first | exact id | assumption)⟩ (by first | rfl | assumption), ?_⟩
             | refine ⟨_, q_load_extb rfl rfl rfl rfl ⟨by assumption, (by first | exact id | assumption)⟩ (by rfl), ?_⟩
             | refine ⟨_, q_loadA_extb rfl rfl rfl rfl ⟨by assumption, (by first | exact id | assumption)⟩ (by rfl), ?_⟩
             | refine ⟨_, q_load_ext0 rfl rfl rfl rfl ⟨by assumption, (by first | exact id | assumption)⟩ (by rfl), ?_⟩)
          | refine jcmp rfl rfl rfl rfl rfl rfl rfl ?_
          | refine jar rfl rfl rfl rfl rfl rfl rfl (by omega) ?_
          | refine j_store rfl rfl rfl rfl rfl rfl rfl rfl (by (repeat (first | exact Upd.here | apply Upd.there))) (by rfl) ?_
          | (refine j_qe rfl rfl rfl ?_
             first
             | refine ⟨_, q_pick_t rfl rfl rfl, ?_⟩
             | refine ⟨_, q_pick_f rfl rfl rfl, ?_⟩
             | refine ⟨_, q_not rfl rfl, ?_⟩
             | refine ⟨_, q_index_nat rfl rfl rfl rfl rfl (by omega), ?_⟩
             | refine ⟨_, q_index_slice rfl rfl rfl rfl rfl (by omega), ?_⟩
             | refine ⟨_, q_index_arr rfl rfl rfl rfl rfl (by omega), ?_⟩
             | refine ⟨_, q_index_arr_ext rfl rfl rfl rfl rfl (by omega), ?_⟩
             | refine ⟨_, q_len_slice rfl rfl rfl rfl, ?_⟩
             | refine ⟨_, q_quo rfl rfl rfl (by omega), ?_⟩
             | refine ⟨_, q_rem rfl rfl rfl (by omega), ?_⟩
             | refine ⟨_, q_quot rfl rfl rfl (by omega), ?_⟩
             | refine ⟨_, q_remt rfl rfl rfl (by omega), ?_⟩
             | refine ⟨_, q_addu8 rfl rfl rfl (by omega), ?_⟩
             | refine ⟨_, q_quou8 rfl rfl rfl (by omega), ?_⟩
             | refine ⟨_, q_conv rfl rfl rfl rfl rfl rfl (by first | rfl | (exact i64_wrap (by omega) (by omega)) | (exact u8_wrap (by omega) (by omega)) | (exact u64_wrap (by omega) (by omega)) | (exact u16_wrap (by omega) (by omega))), ?_⟩)
          | refine j_guard_undef rfl rfl rfl rfl rfl ?_
          | (refine j_guard rfl rfl rfl rfl rfl ?_ ?_ <;> intro hc <;> (first | (exact absurd hc (by decide)) | ((try simp only [decide_eq_true_eq, decide_eq_false_iff_not, Bool.not_eq_true', Bool.not_eq_false', Bool.not_true, Bool.not_false, ne_eq, Decidable.not_not] at hc) <;> first | (exfalso; omega) | (exact absurd trivial hc) | skip)))
          | (refine j_buildSlice rfl rfl rfl rfl rfl rfl rfl rfl rfl rfl rfl rfl ?_; intro b)
          | (refine j_append rfl rfl rfl rfl rfl rfl rfl rfl rfl rfl rfl (by (repeat (first | exact InL.here | apply InL.there))) (by (repeat (first | exact InL.here | apply InL.there))) (by rfl) (by rfl) (by omega) (fun _ => by (repeat (first | exact Upd.here | apply Upd.there))) ?_; intro v))
       | (refine gSC ?_
          first
          | refine sc_seq ?_
          | refine sc_region ?_
          | (refine sc_cond rfl ?_ ?_ <;> intro hc <;> (first | (exact absurd hc (by decide)) | ((try simp only [decide_eq_true_eq, decide_eq_false_iff_not, Bool.not_eq_true', Bool.not_eq_false', Bool.not_true, Bool.not_false, ne_eq, Decidable.not_not] at hc) <;> first | (exfalso; omega) | (exact absurd trivial hc) | skip)))
          | refine sc_block ?_
          | refine sc_ret ?_
          | refine sc_exit ?_
          | refine sc_skip ?_)
       | (refine gSQ ?_
          first
          | refine sq_seq ?_
          | refine sq_blk ?_
          | refine sq_seq_ret ?_
          | refine sq_blk_ret ?_
          | refine sq_loop_ret ?_
          | refine sq_seq_exit ?_
          | refine sq_blk_hit ?_
          | refine sq_blk_miss rfl ?_
          | refine sq_loop_exit ?_
          | refine sq_ende (.inl rfl) rfl rfl ⟨_, (RVs.cons (RV.tmp rfl) (RVs.nil)), ?_⟩
          | refine sq_ende (.inr rfl) rfl rfl ⟨_, (RVs.cons (RV.tmp rfl) (RVs.nil)), ?_⟩)
       | refine j_nil ?_
       )
      intro w' hS
      refine ⟨.slice Ao (limbs a).length co, trivial, by rw [← hr]; rfl, st_trimN hS (by (repeat (first | exact InL.here | apply InL.there))) htl⟩
    | succ j =>
      obtain ⟨x, hx⟩ : ∃ x, o[j]? = some x := ⟨_, List.getElem?_eq_getElem (by omega)⟩
      obtain ⟨ad, rfl⟩ : ∃ ad, Ao = some ad := by
        cases Ao with
        | none => have := (hso.nil rfl).1; omega
        | some ad => exact ⟨ad, rfl⟩
      have hsle := hso.le
      have hstop := hso.top
      have e1 : j = (((j + 1 : Nat) : Int) - 1).toNat := by omega
      have hx2 := hx
      rw [e1] at hx2
      rw [take_snoc hx] at hr
      by_cases hx0 : x = 0
      · rw [hx0, trim_zero] at hr
        repeat' (first
         | (refine gJ ?_
            first
            | refine jmv rfl rfl rfl rfl rfl ?_
            | refine jcmp rfl rfl rfl rfl rfl rfl rfl ?_
            | refine jar rfl rfl rfl rfl rfl rfl rfl (by omega) ?_
            | (refine j_qe rfl rfl rfl ?_; refine ⟨_, q_row1 (f := u32C) rfl rfl rfl rfl (by (repeat (first | exact InL.here | apply InL.there))) (fun _ => rfl) hx2 rfl, ?_⟩)
            | (refine j_qe rfl rfl rfl ?_; refine ⟨_, q_sliceHiI j rfl rfl rfl rfl rfl (by omega) (by omega), ?_⟩)
            | refine j_store rfl rfl rfl rfl rfl rfl rfl rfl (by (repeat (first | exact Upd.here | apply Upd.there))) (by rfl) ?_
            | (refine j_qe rfl rfl rfl ?_
               first
               | refine ⟨_, q_pick_t rfl rfl rfl, ?_⟩
               | refine ⟨_, q_pick_f rfl rfl rfl, ?_⟩
               | refine ⟨_, q_not rfl rfl, ?_⟩
               | refine ⟨_, q_index_nat rfl rfl rfl rfl rfl (by omega), ?_⟩
               | refine ⟨_, q_index_slice rfl rfl rfl rfl rfl (by omega), ?_⟩
               | refine ⟨_, q_index_arr rfl rfl rfl rfl rfl (by omega), ?_⟩
               | refine ⟨_, q_index_arr_ext rfl rfl rfl rfl rfl (by omega), ?_⟩
               | refine ⟨_, q_len_slice rfl rfl rfl rfl, ?_⟩
               | refine ⟨_, q_quo rfl rfl rfl (by omega), ?_⟩
               | refine ⟨_, q_rem rfl rfl rfl (by omega), ?_⟩
               | refine ⟨_, q_quot rfl rfl rfl (by omega), ?_⟩
               | refine ⟨_, q_remt rfl rfl rfl (by omega), ?_⟩
               | refine ⟨_, q_addu8 rfl rfl rfl (by omega), ?_⟩
               | refine ⟨_, q_quou8 rfl rfl rfl (by omega), ?_⟩
               | refine ⟨_, q_conv rfl rfl rfl rfl rfl rfl (by first | rfl | (exact i64_wrap (by omega) (by omega)) | (exact u8_wrap (by omega) (by omega)) | (exact u64_wrap (by omega) (by omega)) | (exact u16_wrap (by omega) (by omega))), ?_⟩)
            | refine j_guard_undef rfl rfl rfl rfl rfl ?_
            | (refine j_guard rfl rfl rfl rfl rfl ?_ ?_ <;> intro hc <;> (first | (exact absurd hc (by decide)) | ((try simp only [decide_eq_true_eq, decide_eq_false_iff_not, Bool.not_eq_true', Bool.not_eq_false', Bool.not_true, Bool.not_false, ne_eq, Decidable.not_not] at hc) <;> first | (exfalso; omega) | (exact absurd trivial hc) | skip)))
            | (refine j_buildSlice rfl rfl rfl rfl rfl rfl rfl rfl rfl rfl rfl rfl ?_; intro b)
            | (refine j_append rfl rfl rfl rfl rfl rfl rfl rfl rfl rfl rfl (by (repeat (first | exact InL.here | apply InL.there))) (by (repeat (first | exact InL.here | apply InL.there))) (by rfl) (by rfl) (by omega) (fun _ => by (repeat (first | exact Upd.here | apply Upd.there))) ?_; intro v))
         | (refine gSC ?_
            first
            | refine sc_seq ?_
            | refine sc_region ?_
            | (refine sc_cond rfl ?_ ?_ <;> intro hc <;> (first | (exact absurd hc (by decide)) | ((try simp only [decide_eq_true_eq, decide_eq_false_iff_not, Bool.not_eq_true', Bool.not_eq_false', Bool.not_true, Bool.not_false, ne_eq, Decidable.not_not] at hc) <;> first | (exfalso; omega) | (exact absurd trivial hc) | skip)))
            | refine sc_block ?_
            | refine sc_ret ?_
            | refine sc_exit ?_
            | refine sc_skip ?_)
         | (refine gSQ ?_
            first
            | refine sq_seq ?_
            | refine sq_blk ?_
            | refine sq_seq_ret ?_
            | refine sq_blk_ret ?_
            | refine sq_loop_ret ?_
            | refine sq_seq_exit ?_
            | refine sq_blk_hit ?_
            | refine sq_blk_miss rfl ?_
            | refine sq_loop_exit ?_
            | refine sq_ende (.inl rfl) rfl rfl ⟨_, (RVs.cons (RV.tmp rfl) (RVs.nil)), ?_⟩
            | refine sq_ende (.inr rfl) rfl rfl ⟨_, (RVs.cons (RV.tmp rfl) (RVs.nil)), ?_⟩)
         | refine j_nil ?_
         )
        exact sq_loop j ⟨by omega, hr⟩ (by omega) (by repeat (first | exact FSub.nil | refine FSub.cons rfl ?_ | refine FSub.conse rfl (by congr 1; omega) ?_)) (by repeat (first | exact LSub.nil | refine LSub.cons (by repeat (first | exact Rem.here | apply Rem.there)) ?_))
      · rw [trim_keep _ _ hx0] at hr
        have hlen : (limbs a).length = j + 1 := by rw [← hr]; simp; omega
        repeat' (first
         | (refine gJ ?_
            first
            | refine jmv rfl rfl rfl rfl rfl ?_
            | refine jcmp rfl rfl rfl rfl rfl rfl rfl ?_
            | refine jar rfl rfl rfl rfl rfl rfl rfl (by omega) ?_
            | (refine j_qe rfl rfl rfl ?_; refine ⟨_, q_row1 (f := u32C) rfl rfl rfl rfl (by (repeat (first | exact InL.here | apply InL.there))) (fun _ => rfl) hx2 rfl, ?_⟩)
            | refine j_store rfl rfl rfl rfl rfl rfl rfl rfl (by (repeat (first | exact Upd.here | apply Upd.there))) (by rfl) ?_
            | (refine j_qe rfl rfl rfl ?_
               first
               | refine ⟨_, q_pick_t rfl rfl rfl, ?_⟩
               | refine ⟨_, q_pick_f rfl rfl rfl, ?_⟩
               | refine ⟨_, q_not rfl rfl, ?_⟩
               | refine ⟨_, q_index_nat rfl rfl rfl rfl rfl (by omega), ?_⟩
               | refine ⟨_, q_index_slice rfl rfl rfl rfl rfl (by omega), ?_⟩
               | refine ⟨_, q_index_arr rfl rfl rfl rfl rfl (by omega), ?_⟩
               | refine ⟨_, q_index_arr_ext rfl rfl rfl rfl rfl (by omega), ?_⟩
               | refine ⟨_, q_len_slice rfl rfl rfl rfl, ?_⟩
               | refine ⟨_, q_quo rfl rfl rfl (by omega), ?_⟩
               | refine ⟨_, q_rem rfl rfl rfl (by omega), ?_⟩
               | refine ⟨_, q_quot rfl rfl rfl (by omega), ?_⟩
               | refine ⟨_, q_remt rfl rfl rfl (by omega), ?_⟩
               | refine ⟨_, q_addu8 rfl rfl rfl (by omega), ?_⟩
               | refine ⟨_, q_quou8 rfl rfl rfl (by omega), ?_⟩
               | refine ⟨_, q_conv rfl rfl rfl rfl rfl rfl (by first | rfl | (exact i64_wrap (by omega) (by omega)) | (exact u8_wrap (by omega) (by omega)) | (exact u64_wrap (by omega) (by omega)) | (exact u16_wrap (by omega) (by omega))), ?_⟩)
            | refine j_guard_undef rfl rfl rfl rfl rfl ?_
            | (refine j_guard rfl rfl rfl rfl rfl ?_ ?_ <;> intro hc <;> (first | (exact absurd hc (by decide)) | ((try simp only [decide_eq_true_eq, decide_eq_false_iff_not, Bool.not_eq_true', Bool.not_eq_false', Bool.not_true, Bool.not_false, ne_eq, Decidable.not_not] at hc) <;> first | (exfalso; omega) | (exact absurd trivial hc) | skip)))
            | (refine j_buildSlice rfl rfl rfl rfl rfl rfl rfl rfl rfl rfl rfl rfl ?_; intro b)
            | (refine j_append rfl rfl rfl rfl rfl rfl rfl rfl rfl rfl rfl (by (repeat (first | exact InL.here | apply InL.there))) (by (repeat (first | exact InL.here | apply InL.there))) (by rfl) (by rfl) (by omega) (fun _ => by (repeat (first | exact Upd.here | apply Upd.there))) ?_; intro v))
         | (refine gSC ?_
            first
            | refine sc_seq ?_
            | refine sc_region ?_
            | (refine sc_cond rfl ?_ ?_ <;> intro hc <;> (first | (exact absurd hc (by decide)) | ((try simp only [decide_eq_true_eq, decide_eq_false_iff_not, Bool.not_eq_true', Bool.not_eq_false', Bool.not_true, Bool.not_false, ne_eq, Decidable.not_not] at hc) <;> first | (exfalso; omega) | (exact absurd trivial hc) | skip)))
            | refine sc_block ?_
            | refine sc_ret ?_
            | refine sc_exit ?_
            | refine sc_skip ?_)
         | (refine gSQ ?_
            first
            | refine sq_seq ?_
            | refine sq_blk ?_
            | refine sq_seq_ret ?_
            | refine sq_blk_ret ?_
            | refine sq_loop_ret ?_
            | refine sq_seq_exit ?_
            | refine sq_blk_hit ?_
            | refine sq_blk_miss rfl ?_
            | refine sq_loop_exit ?_
            | refine sq_ende (.inl rfl) rfl rfl ⟨_, (RVs.cons (RV.tmp rfl) (RVs.nil)), ?_⟩
            | refine sq_ende (.inr rfl) rfl rfl ⟨_, (RVs.cons (RV.tmp rfl) (RVs.nil)), ?_⟩)
         | refine j_nil ?_
         )
        intro w' hS
        refine ⟨.slice (some ad) (limbs a).length co, trivial, by rw [hlen]; rfl, st_trimN hS (by (repeat (first | exact InL.here | apply InL.there))) htl⟩
  · have hpos : 0 < (dg (vd r0)).length := by rw [dg_pos (by omega)]; simp
    have hm0 : 0 < m := by
      rcases Nat.eq_zero_or_pos m with h | h
      · rw [h] at hr0
        rw [List.length_eq_zero_iff.1 hr0] at hz
        exact absurd rfl hz
      · exact h
    obtain ⟨ad, rfl⟩ : ∃ ad, A1 = some ad := by
      cases A1 with
      | none => have := (hs1.nil rfl).1; omega
      | some ad => exact ⟨ad, rfl⟩
    repeat' (first
     | (refine gJ ?_
        first
        | refine jmv rfl rfl rfl rfl rfl ?_
        | (refine gload rfl rfl ?_
           refine j_qe rfl rfl rfl ?_
           first
           | refine ⟨_, q_load_own rfl rfl rfl rfl (by (repeat (first | exact InL.here | apply InL.there))) (by first | rfl | assumption), ?_⟩
           | refine ⟨_, q_loadA_own rfl rfl rfl rfl (by (repeat (first | exact InL.here | apply InL.there))) (by rfl), ?_⟩
           | refine ⟨_, q_loadA_ext rfl rfl rfl rfl ⟨by assumption, (by first | exact id | assumption)⟩ (by rfl), ?_⟩
           | refine ⟨_, q_load_ext rfl rfl rfl rfl ⟨by assumption, (by first | exact id | assumption)⟩ (by first | rfl | assumption), ?_⟩
           | refine ⟨_, q_load_extb rfl rfl rfl rfl ⟨by assumption, (by first | exact id | assumption)⟩ (by rfl), ?_⟩
           | refine ⟨_, q_loadA_extb rfl rfl rfl rfl ⟨by assumption, (by first | exact id | assumption)⟩ (by rfl), ?_⟩
           | refine ⟨_, q_load_ext0 rfl rfl rfl rfl ⟨by assumption, (by first | exact id | assumption)⟩ (by rfl), ?_⟩)
        | refine jcmp rfl rfl rfl rfl rfl rfl rfl ?_
        | refine jar rfl rfl rfl rfl rfl rfl rfl (by omega) ?_
        | (refine gcall rfl rfl ?_
           first
           | (refine j_qc (f := 83) rfl rfl rfl rfl rfl rfl rfl ?_; refine ⟨_, (fun w' hs => htrim w' (rs_own (fun _ => rfl) hs (by (repeat (first | exact InL.here | apply InL.there))) hr0.symm rfl)), ?_⟩))
        | refine j_store rfl rfl rfl rfl rfl rfl rfl rfl (by (repeat (first | exact Upd.here | apply Upd.there))) (by rfl) ?_
        | (refine j_qe rfl rfl rfl ?_
           first
           | refine ⟨_, q_pick_t rfl rfl rfl, ?_⟩
           | refine ⟨_, q_pick_f rfl rfl rfl, ?_⟩
           | refine ⟨_, q_not rfl rfl, ?_⟩
           | refine ⟨_, q_index_nat rfl rfl rfl rfl rfl (by omega), ?_⟩
           | refine ⟨_, q_index_slice rfl rfl rfl rfl rfl (by omega), ?_⟩
           | refine ⟨_, q_index_arr rfl rfl rfl rfl rfl (by omega), ?_⟩
           | refine ⟨_, q_index_arr_ext rfl rfl rfl rfl rfl (by omega), ?_⟩
           | refine ⟨_, q_len_slice rfl rfl rfl rfl, ?_⟩
           | refine ⟨_, q_quo rfl rfl rfl (by omega), ?_⟩
           | refine ⟨_, q_rem rfl rfl rfl (by omega), ?_⟩
           | refine ⟨_, q_quot rfl rfl rfl (by omega), ?_⟩
           | refine ⟨_, q_remt rfl rfl rfl (by omega), ?_⟩
           | refine ⟨_, q_addu8 rfl rfl rfl (by omega), ?_⟩
           | refine ⟨_, q_quou8 rfl rfl rfl (by omega), ?_⟩
           | refine ⟨_, q_conv rfl rfl rfl rfl rfl rfl (by first | rfl | (exact i64_wrap (by omega) (by omega)) | (exact u8_wrap (by omega) (by omega)) | (exact u64_wrap (by omega) (by omega)) | (exact u16_wrap (by omega) (by omega))), ?_⟩)
        | refine j_guard_undef rfl rfl rfl rfl rfl ?_
        | (refine j_guard rfl rfl rfl rfl rfl ?_ ?_ <;> intro hc <;> (first | (exact absurd hc (by decide)) | ((try simp only [decide_eq_true_eq, decide_eq_false_iff_not, Bool.not_eq_true', Bool.not_eq_false', Bool.not_true, Bool.not_false, ne_eq, Decidable.not_not] at hc) <;> first | (exfalso; omega) | (exact absurd trivial hc) | skip)))
        | (refine j_buildSlice rfl rfl rfl rfl rfl rfl rfl rfl rfl rfl rfl rfl ?_; intro b)
        | (refine j_append rfl rfl rfl rfl rfl rfl rfl rfl rfl rfl rfl (by (repeat (first | exact InL.here | apply InL.there))) (by (repeat (first | exact InL.here | apply InL.there))) (by rfl) (by rfl) (by omega) (fun _ => by (repeat (first | exact Upd.here | apply Upd.there))) ?_; intro v))
     | (refine gSC ?_
        first
        | refine sc_seq ?_
        | refine sc_region ?_
        | (refine sc_cond rfl ?_ ?_ <;> intro hc <;> (first | (exact absurd hc (by decide)) | ((try simp only [decide_eq_true_eq, decide_eq_false_iff_not, Bool.not_eq_true', Bool.not_eq_false', Bool.not_true, Bool.not_false, ne_eq, Decidable.not_not] at hc) <;> first | (exfalso; omega) | (exact absurd trivial hc) | skip)))
        | refine sc_block ?_
        | refine sc_ret ?_
        | refine sc_exit ?_
        | refine sc_skip ?_)
     | (refine gSQ ?_
        first
        | refine sq_seq ?_
        | refine sq_blk ?_
        | refine sq_seq_ret ?_
        | refine sq_blk_ret ?_
        | refine sq_loop_ret ?_
        | refine sq_seq_exit ?_
        | refine sq_blk_hit ?_
        | refine sq_blk_miss rfl ?_
        | refine sq_loop_exit ?_
        | refine sq_ende (.inl rfl) rfl rfl ⟨_, (RVs.cons (RV.tmp rfl) (RVs.nil)), ?_⟩
        | refine sq_ende (.inr rfl) rfl rfl ⟨_, (RVs.cons (RV.tmp rfl) (RVs.nil)), ?_⟩)
     | refine j_nil ?_
     )
    refine sc_loop (ι := Nat × List Nat × Nat) (fun j => j.1 ≤ m ∧ divI r0 j.2.1 j.1 j.2.2) (fun j => j.1) (fun j => [(3, ov), (4, .bool lo), (5, .slice (some ad) m c1), (6, .int .i64 j.2.2), (7, .int .i64 ((j.1 : Int) - 1))])
      (fun j => [.own ov 55 1 o.length (o.flatMap u32C), .own (.slice (some ad) m c1) 3 1 m (j.2.1.flatMap natC)]) (m, r0, 0) ⟨Nat.le_refl _, [], by rw [← hr0]; simp, by simp [hr0], fun x hx => (by cases hx), by show 0 < 65536; omega, by rw [← hr0]; simp [vd]⟩ (by repeat (first | exact FSub.nil | refine FSub.cons rfl ?_ | refine FSub.conse rfl (by congr 1; omega) ?_)) (by repeat (first | exact LSub.nil | refine LSub.cons (by repeat (first | exact Rem.here | apply Rem.there)) ?_)) ?_
    rintro ⟨j, r, left⟩ ⟨hj, hI⟩
    dsimp only at hj hI ⊢
    cases j with
    | succ j =>
      obtain ⟨d, hd⟩ : ∃ d, r0[j]? = some d := ⟨_, List.getElem?_eq_getElem (by omega)⟩
      obtain ⟨hrj, hI2⟩ := divI_step hI hd hin
      have hd10 := hin d (List.mem_of_getElem? hd)
      have hl6 : left < 65536 := by obtain ⟨q, _, _, _, h, _⟩ := hI; exact h
      have ej : ((j + 1 : Nat) : Int) - 1 = (j : Int) := by omega
      rw [ej]
      have hzs : splice (natC d) 0 (vcells (.int .i64 (((left : Int) * 10000 + d) / 65536))) = natC ((left * 10000 + d) / 65536) := by
        show [Value.int .i64 (((left : Int) * 10000 + d) / 65536)] = [Value.int .i64 (((left * 10000 + d) / 65536 : Nat) : Int)]
        rw [show ((left : Int) * 10000 + d) / 65536 = (((left * 10000 + d) / 65536 : Nat) : Int) by omega]
      repeat' (first
       | (refine gJ ?_
          first
          | refine jmv rfl rfl rfl rfl rfl ?_
          | refine jcmp rfl rfl rfl rfl rfl rfl rfl ?_
          | refine jar rfl rfl rfl rfl rfl rfl rfl (by omega) ?_
          | (refine j_qe rfl rfl rfl ?_; refine ⟨_, q_row1 (f := natC) rfl rfl rfl rfl (by (repeat (first | exact InL.here | apply InL.there))) (fun _ => rfl) hrj rfl, ?_⟩)
          | (refine j_store_row (f := natC) (z' := (left * 10000 + d) / 65536) rfl rfl rfl rfl rfl rfl rfl rfl (by (repeat (first | exact InL.here | apply InL.there))) (fun _ => rfl) hrj hzs rfl (by (repeat (first | exact Upd.here | apply Upd.there))) ?_)
          | refine j_store rfl rfl rfl rfl rfl rfl rfl rfl (by (repeat (first | exact Upd.here | apply Upd.there))) (by rfl) ?_
          | (refine j_qe rfl rfl rfl ?_
             first
             | refine ⟨_, q_pick_t rfl rfl rfl, ?_⟩
             | refine ⟨_, q_pick_f rfl rfl rfl, ?_⟩
             | refine ⟨_, q_not rfl rfl, ?_⟩
             | refine ⟨_, q_index_nat rfl rfl rfl rfl rfl (by omega), ?_⟩
             | refine ⟨_, q_index_slice rfl rfl rfl rfl rfl (by omega), ?_⟩
             | refine ⟨_, q_index_arr rfl rfl rfl rfl rfl (by omega), ?_⟩
             | refine ⟨_, q_index_arr_ext rfl rfl rfl rfl rfl (by omega), ?_⟩
             | refine ⟨_, q_len_slice rfl rfl rfl rfl, ?_⟩
             | refine ⟨_, q_quo rfl rfl rfl (by omega), ?_⟩
             | refine ⟨_, q_rem rfl rfl rfl (by omega), ?_⟩
             | refine ⟨_, q_quot rfl rfl rfl (by omega), ?_⟩
             | refine ⟨_, q_remt rfl rfl rfl (by omega), ?_⟩
             | refine ⟨_, q_addu8 rfl rfl rfl (by omega), ?_⟩
             | refine ⟨_, q_quou8 rfl rfl rfl (by omega), ?_⟩
             | refine ⟨_, q_conv rfl rfl rfl rfl rfl rfl (by first | rfl | (exact i64_wrap (by omega) (by omega)) | (exact u8_wrap (by omega) (by omega)) | (exact u64_wrap (by omega) (by omega)) | (exact u16_wrap (by omega) (by omega))), ?_⟩)
          | refine j_guard_undef rfl rfl rfl rfl rfl ?_
          | (refine j_guard rfl rfl rfl rfl rfl ?_ ?_ <;> intro hc <;> (first | (exact absurd hc (by decide)) | ((try simp only [decide_eq_true_eq, decide_eq_false_iff_not, Bool.not_eq_true', Bool.not_eq_false', Bool.not_true, Bool.not_false, ne_eq, Decidable.not_not] at hc) <;> first | (exfalso; omega) | (exact absurd trivial hc) | skip)))
          | (refine j_buildSlice rfl rfl rfl rfl rfl rfl rfl rfl rfl rfl rfl rfl ?_; intro b)
          | (refine j_append rfl rfl rfl rfl rfl rfl rfl rfl rfl rfl rfl (by (repeat (first | exact InL.here | apply InL.there))) (by (repeat (first | exact InL.here | apply InL.there))) (by rfl) (by rfl) (by omega) (fun _ => by (repeat (first | exact Upd.here | apply Upd.there))) ?_; intro v))
       | (refine gSC ?_
          first
          | refine sc_seq ?_
          | refine sc_region ?_
          | (refine sc_cond rfl ?_ ?_ <;> intro hc <;> (first | (exact absurd hc (by decide)) | ((try simp only [decide_eq_true_eq, decide_eq_false_iff_not, Bool.not_eq_true', Bool.not_eq_false', Bool.not_true, Bool.not_false, ne_eq, Decidable.not_not] at hc) <;> first | (exfalso; omega) | (exact absurd trivial hc) | skip)))
          | refine sc_block ?_
          | refine sc_ret ?_
          | refine sc_exit ?_
          | refine sc_skip ?_)
       | (refine gSQ ?_
          first
          | refine sq_seq ?_
          | refine sq_blk ?_
          | refine sq_seq_ret ?_
          | refine sq_blk_ret ?_
          | refine sq_loop_ret ?_
          | refine sq_seq_exit ?_
          | refine sq_blk_hit ?_
          | refine sq_blk_miss rfl ?_
          | refine sq_loop_exit ?_
          | refine sq_ende (.inl rfl) rfl rfl ⟨_, (RVs.cons (RV.tmp rfl) (RVs.nil)), ?_⟩
          | refine sq_ende (.inr rfl) rfl rfl ⟨_, (RVs.cons (RV.tmp rfl) (RVs.nil)), ?_⟩)
       | refine j_nil ?_
       )
      exact sq_loop (j, r.set j ((left * 10000 + d) / 65536), (left * 10000 + d) % 65536) ⟨by show j ≤ m; omega, hI2⟩ (by show j < j + 1; omega) (by dsimp only; exact (by repeat (first | exact FSub.nil | refine FSub.cons rfl ?_ | refine FSub.conse rfl (by congr 1; omega) ?_))) (by repeat (first | exact LSub.nil | refine LSub.cons (by repeat (first | exact Rem.here | apply Rem.there)) ?_))
    | zero =>
      obtain ⟨hrl, hrin, hl6, hrv⟩ := divI_end hI
      rw [show ((0 : Nat) : Int) - 1 = -1 by omega]
      cases lo with
      | true =>
        have hnew := outI_low hout hl6 hrv
        have hbd := hob0 (vd r0) true o hout (by omega)
        have e9 : o.flatMap u32C ++ [.int .u32 (left : Int)] = (o ++ [(left : Int)]).flatMap u32C := by rw [List.flatMap_append]; rfl
        repeat' (first
         | (refine gJ ?_
            first
            | refine jmv rfl rfl rfl rfl rfl ?_
            | refine jcmp rfl rfl rfl rfl rfl rfl rfl ?_
            | refine jar rfl rfl rfl rfl rfl rfl rfl (by omega) ?_
            | (refine j_qe rfl rfl rfl ?_; refine ⟨_, q_convw (k := .u32) rfl rfl rfl rfl rfl rfl (u32_small (by omega) (by omega)), ?_⟩)
            | refine j_store rfl rfl rfl rfl rfl rfl rfl rfl (by (repeat (first | exact Upd.here | apply Upd.there))) (by rfl) ?_
            | (refine j_qe rfl rfl rfl ?_
               first
               | refine ⟨_, q_pick_t rfl rfl rfl, ?_⟩
               | refine ⟨_, q_pick_f rfl rfl rfl, ?_⟩
               | refine ⟨_, q_not rfl rfl, ?_⟩
               | refine ⟨_, q_index_nat rfl rfl rfl rfl rfl (by omega), ?_⟩
               | refine ⟨_, q_index_slice rfl rfl rfl rfl rfl (by omega), ?_⟩
               | refine ⟨_, q_index_arr rfl rfl rfl rfl rfl (by omega), ?_⟩
               | refine ⟨_, q_index_arr_ext rfl rfl rfl rfl rfl (by omega), ?_⟩
               | refine ⟨_, q_len_slice rfl rfl rfl rfl, ?_⟩
               | refine ⟨_, q_quo rfl rfl rfl (by omega), ?_⟩
               | refine ⟨_, q_rem rfl rfl rfl (by omega), ?_⟩
               | refine ⟨_, q_quot rfl rfl rfl (by omega), ?_⟩
               | refine ⟨_, q_remt rfl rfl rfl (by omega), ?_⟩
               | refine ⟨_, q_addu8 rfl rfl rfl (by omega), ?_⟩
               | refine ⟨_, q_quou8 rfl rfl rfl (by omega), ?_⟩
               | refine ⟨_, q_conv rfl rfl rfl rfl rfl rfl (by first | rfl | (exact i64_wrap (by omega) (by omega)) | (exact u8_wrap (by omega) (by omega)) | (exact u64_wrap (by omega) (by omega)) | (exact u16_wrap (by omega) (by omega))), ?_⟩)
            | refine j_guard_undef rfl rfl rfl rfl rfl ?_
            | (refine j_guard rfl rfl rfl rfl rfl ?_ ?_ <;> intro hc <;> (first | (exact absurd hc (by decide)) | ((try simp only [decide_eq_true_eq, decide_eq_false_iff_not, Bool.not_eq_true', Bool.not_eq_false', Bool.not_true, Bool.not_false, ne_eq, Decidable.not_not] at hc) <;> first | (exfalso; omega) | (exact absurd trivial hc) | skip)))
            | (refine j_buildSlice rfl rfl rfl rfl rfl rfl rfl rfl rfl rfl rfl rfl ?_; intro b)
            | (refine j_append rfl rfl rfl rfl rfl rfl rfl rfl rfl rfl rfl (by (repeat (first | exact InL.here | apply InL.there))) (by (repeat (first | exact InL.here | apply InL.there))) (by rfl) (by rfl) (by omega) (fun _ => by (repeat (first | exact Upd.here | apply Upd.there))) ?_; intro v))
         | (refine gSC ?_
            first
            | refine sc_seq ?_
            | refine sc_region ?_
            | (refine sc_cond rfl ?_ ?_ <;> intro hc <;> (first | (exact absurd hc (by decide)) | ((try simp only [decide_eq_true_eq, decide_eq_false_iff_not, Bool.not_eq_true', Bool.not_eq_false', Bool.not_true, Bool.not_false, ne_eq, Decidable.not_not] at hc) <;> first | (exfalso; omega) | (exact absurd trivial hc) | skip)))
            | refine sc_block ?_
            | refine sc_ret ?_
            | refine sc_exit ?_
            | refine sc_skip ?_)
         | (refine gSQ ?_
            first
            | refine sq_seq ?_
            | refine sq_blk ?_
            | refine sq_seq_ret ?_
            | refine sq_blk_ret ?_
            | refine sq_loop_ret ?_
            | refine sq_seq_exit ?_
            | refine sq_blk_hit ?_
            | refine sq_blk_miss rfl ?_
            | refine sq_loop_exit ?_
            | refine sq_ende (.inl rfl) rfl rfl ⟨_, (RVs.cons (RV.tmp rfl) (RVs.nil)), ?_⟩
            | refine sq_ende (.inr rfl) rfl rfl ⟨_, (RVs.cons (RV.tmp rfl) (RVs.nil)), ?_⟩)
         | refine j_nil ?_
         )
        refine sq_loop (r, false, o ++ [(left : Int)], v) ⟨by rw [hrl, hr0], hrin, hnew⟩ (by show vd r < vd r0; omega) (by repeat (first | exact FSub.nil | refine FSub.cons rfl ?_ | refine FSub.conse rfl (by congr 1; omega) ?_)) ?_
        dsimp only
        rw [← e9, List.length_append, List.length_singleton]
        exact (by repeat (first | exact LSub.nil | refine LSub.cons (by repeat (first | exact Rem.here | apply Rem.there)) ?_))
      | false =>
        have hbd := hob0 (vd r0) false o hout (by omega)
        obtain ⟨o', x, rfl, hx, hnew⟩ := outI_high hout hl6 hrv
        obtain ⟨k, hk⟩ : ∃ k, o'.length = k := ⟨_, rfl⟩
        have e1 : (o' ++ [x]).length = k + 1 := by rw [List.length_append, hk]; rfl
        have ek : (((k + 1 : Nat) : Int) - 1).toNat = k := by omega
        have hx1 : (o' ++ [x])[(((k + 1 : Nat) : Int) - 1).toNat]? = some x := by rw [ek, List.getElem?_append_right (by omega), hk, Nat.sub_self]; rfl
        have e5 : (o' ++ [x]).set (((k + 1 : Nat) : Int) - 1).toNat (x + (left : Int) * 65536) = o' ++ [x + (left : Int) * 65536] := by rw [ek, List.set_append_right _ _ (by omega), hk, Nat.sub_self]; rfl
        have e6 : (o' ++ [x + (left : Int) * 65536]).length = k + 1 := by rw [List.length_append, hk]; rfl
        rw [e1] at hbd ⊢
        refine sc_ownq (v := ov) (by (repeat (first | exact InL.here | apply InL.there))) (by omega) ?_
        rintro ad9 c9 rfl hc9
        repeat' (first
         | (refine gJ ?_
            first
            | refine jmv rfl rfl rfl rfl rfl ?_
            | refine jcmp rfl rfl rfl rfl rfl rfl rfl ?_
            | refine jar rfl rfl rfl rfl rfl rfl rfl (by omega) ?_
            | (refine j_qe rfl rfl rfl ?_; refine ⟨_, q_convw (k := .u32) rfl rfl rfl rfl rfl rfl (u32_small (by omega) (by omega)), ?_⟩)
            | (refine j_qe rfl rfl rfl ?_; refine ⟨_, q_row1 (f := u32C) rfl rfl rfl rfl (by (repeat (first | exact InL.here | apply InL.there))) (fun _ => rfl) hx1 rfl, ?_⟩)
            | (refine j_qe rfl rfl rfl ?_; refine ⟨_, q_ark (k := .u32) rfl rfl rfl rfl (u32_small (by omega) (by omega)), ?_⟩)
            | (refine j_store_row (f := u32C) (z' := x + (left : Int) * 65536) rfl rfl rfl rfl rfl rfl rfl rfl (by (repeat (first | exact InL.here | apply InL.there))) (fun _ => rfl) hx1 rfl rfl (by (repeat (first | exact Upd.here | apply Upd.there))) ?_)
            | refine j_store rfl rfl rfl rfl rfl rfl rfl rfl (by (repeat (first | exact Upd.here | apply Upd.there))) (by rfl) ?_
            | (refine j_qe rfl rfl rfl ?_
               first
               | refine ⟨_, q_pick_t rfl rfl rfl, ?_⟩
               | refine ⟨_, q_pick_f rfl rfl rfl, ?_⟩
               | refine ⟨_, q_not rfl rfl, ?_⟩
               | refine ⟨_, q_index_nat rfl rfl rfl rfl rfl (by omega), ?_⟩
               | refine ⟨_, q_index_slice rfl rfl rfl rfl rfl (by omega), ?_⟩
               | refine ⟨_, q_index_arr rfl rfl rfl rfl rfl (by omega), ?_⟩
               | refine ⟨_, q_index_arr_ext rfl rfl rfl rfl rfl (by omega), ?_⟩
               | refine ⟨_, q_len_slice rfl rfl rfl rfl, ?_⟩
               | refine ⟨_, q_quo rfl rfl rfl (by omega), ?_⟩
               | refine ⟨_, q_rem rfl rfl rfl (by omega), ?_⟩
               | refine ⟨_, q_quot rfl rfl rfl (by omega), ?_⟩
               | refine ⟨_, q_remt rfl rfl rfl (by omega), ?_⟩
               | refine ⟨_, q_addu8 rfl rfl rfl (by omega), ?_⟩
               | refine ⟨_, q_quou8 rfl rfl rfl (by omega), ?_⟩
               | refine ⟨_, q_conv rfl rfl rfl rfl rfl rfl (by first | rfl | (exact i64_wrap (by omega) (by omega)) | (exact u8_wrap (by omega) (by omega)) | (exact u64_wrap (by omega) (by omega)) | (exact u16_wrap (by omega) (by omega))), ?_⟩)
            | refine j_guard_undef rfl rfl rfl rfl rfl ?_
            | (refine j_guard rfl rfl rfl rfl rfl ?_ ?_ <;> intro hc <;> (first | (exact absurd hc (by decide)) | ((try simp only [decide_eq_true_eq, decide_eq_false_iff_not, Bool.not_eq_true', Bool.not_eq_false', Bool.not_true, Bool.not_false, ne_eq, Decidable.not_not] at hc) <;> first | (exfalso; omega) | (exact absurd trivial hc) | skip)))
            | (refine j_buildSlice rfl rfl rfl rfl rfl rfl rfl rfl rfl rfl rfl rfl ?_; intro b)
            | (refine j_append rfl rfl rfl rfl rfl rfl rfl rfl rfl rfl rfl (by (repeat (first | exact InL.here | apply InL.there))) (by (repeat (first | exact InL.here | apply InL.there))) (by rfl) (by rfl) (by omega) (fun _ => by (repeat (first | exact Upd.here | apply Upd.there))) ?_; intro v))
         | (refine gSC ?_
            first
            | refine sc_seq ?_
            | refine sc_region ?_
            | (refine sc_cond rfl ?_ ?_ <;> intro hc <;> (first | (exact absurd hc (by decide)) | ((try simp only [decide_eq_true_eq, decide_eq_false_iff_not, Bool.not_eq_true', Bool.not_eq_false', Bool.not_true, Bool.not_false, ne_eq, Decidable.not_not] at hc) <;> first | (exfalso; omega) | (exact absurd trivial hc) | skip)))
            | refine sc_block ?_
            | refine sc_ret ?_
            | refine sc_exit ?_
            | refine sc_skip ?_)
         | (refine gSQ ?_
            first
            | refine sq_seq ?_
            | refine sq_blk ?_
            | refine sq_seq_ret ?_
            | refine sq_blk_ret ?_
            | refine sq_loop_ret ?_
            | refine sq_seq_exit ?_
            | refine sq_blk_hit ?_
            | refine sq_blk_miss rfl ?_
            | refine sq_loop_exit ?_
            | refine sq_ende (.inl rfl) rfl rfl ⟨_, (RVs.cons (RV.tmp rfl) (RVs.nil)), ?_⟩
            | refine sq_ende (.inr rfl) rfl rfl ⟨_, (RVs.cons (RV.tmp rfl) (RVs.nil)), ?_⟩)
         | refine j_nil ?_
         )
        refine sq_loop (r, true, o' ++ [x + (left : Int) * 65536], .slice (some ad9) (k + 1) c9) ⟨by rw [hrl, hr0], hrin, hnew⟩ (by show vd r < vd r0; omega) (by repeat (first | exact FSub.nil | refine FSub.cons rfl ?_ | refine FSub.conse rfl (by congr 1; omega) ?_)) ?_
        dsimp only
        rw [← e5, List.length_set, e1]
        exact (by repeat (first | exact LSub.nil | refine LSub.cons (by repeat (first | exact Rem.here | apply Rem.there)) ?_))
end Go.Proofs.Ytmlgheoliaplgaa
