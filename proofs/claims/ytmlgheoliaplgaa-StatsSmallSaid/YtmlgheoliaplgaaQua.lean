/-
  stats: Quantile.
-/
import Derived.Test.YtmlgheoliaplgaaNat1
import Derived.Test.YtmlgheoliaplgaaEngApp
import Derived.Test.YtmlgheoliaplgaaEngStr
import Derived.Test.YtmlgheoliaplgaaSh
import Derived.Sort.OwnSortedInts
namespace Go.Proofs.Ytmlgheoliaplgaa
open Go.RowKit Eng
set_option linter.unusedVariables false
set_option linter.unusedSimpArgs false
attribute [local irreducible] SC SQ J Qt Calls Iterates
section
variable {C : Cx} {F : Fr} {L : List HA} {o : Oper} {K : List KI} {ops : Array Oper} {rest : List Oper}
attribute [local semireducible] SC J
theorem j_ownq {l : List Oper} {v : Value} {e sz n : Nat} {xs : List Value} (hin : InL L (.own v e sz n xs)) (hn : 0 < n) (h : ∀ ad c, v = .slice (some ad) n c → n ≤ c → J C ops false l K F L) : J C ops false l K F L := fun a w hf hs => by
  have hA := hs.at hin
  rcases hA.2.2 with ⟨_, h0⟩ | ⟨g, cap, cur, hv, _, _, hnc, _⟩
  · omega
  · exact h _ _ hv hnc a w hf hs
end
open Go.Sort Go.RowKit in
theorem sort_c {w0 w : World} {hot : Nat → Prop} {L L' : List HA} {v : Value} {e : Nat} {zs : List Int} (hs : St w0 hot L w) (hlen : zs.length < 4611686018427387904)
    (hup : Upd L (.own v e 1 zs.length (zs.map (Value.int .i64))) (.own v e 1 zs.length ((zs.mergeSort fun x y => decide (x ≤ y)).map (Value.int .i64))) L') :
    Calls Try.prog 66 #[v] w fun e w' => ∃ u : Unit, True ∧ e = .returned (.tuple #[]) ∧ St w0 hot L' w' := by
  obtain ⟨N, hp1, hp2⟩ := hup.perm
  have hA := (hs.perm hp1).head
  rcases hA.2.2 with ⟨rfl, hn⟩ | ⟨g, cap, cur, rfl, hg, hh, hcap, hmax, hsz, htk⟩
  · have hz : zs = [] := List.length_eq_zero_iff.1 hn
    subst hz
    refine (Try.slices_Sort_int_none none 0 w).mono fun e' w' ⟨he, hw⟩ => ⟨(), trivial, he, ?_⟩
    subst hw
    exact (hs.perm hp1).perm (by simpa using hp2.symm)
  · have hH := holds_of_blockI (ss := zs) hh (by simpa using htk)
    have hlt := (Array.getElem?_eq_some_iff.1 hh).1
    refine (Try.slices_Sort_int g 0 cap zs w hH hlt hlen).mono fun e' w' ⟨he, n, os, hw⟩ => ⟨(), trivial, he, ?_⟩
    subst hw
    have hgb := grownBy_sortedI (w := w) (g := g) (n := n) (os := os) (zs.mergeSort fun x y => decide (x ≤ y)).toArray
    have hrow := ownsRow_sortedI (n := n) (os := os) (ts := zs.mergeSort fun x y => decide (x ≤ y)) (ss := zs) (by simp) hg hh hcap hmax (by simpa using hsz)
    refine hs.upd hup ⟨hgb.os, hgb.tape, hgb.output, hgb.size, fun k hk => by omega⟩ (fun b hb hne => hgb.block b hb (fun e => hne ?_)) ⟨hA.1, hrow⟩ (fun b hb => .inl hb)
    exact (congrArg id e.symm : (Value.slice (some ⟨g, 0, none⟩) zs.length cap).ownBlock = some b)
/-- A slice of numbers that came in. -/
structure SI (w : World) (A : Option Addr) (c : Nat) (l : List Int) : Prop where
  rs : RS w 1 intC A l
  nil : A = none → l = [] ∧ c = 0
theorem SI.st {w0 w : World} {A : Option Addr} {c : Nat} {l : List Int} (h : SI w0 A c l) {L : List HA} (hs : St w0 Cold L w) : SI w A c l := ⟨h.rs.st hs, h.nil⟩
theorem map_flat (l : List Int) : l.map (Value.int .i64) = l.flatMap intC := by
  induction l with
  | nil => rfl
  | cons x l ih => simp [ih]
theorem clone_c (ad : Addr) (c : Nat) (l : List Int) (w : World) (hl : l.length ≤ 1000000) (h : SI w (some ad) c l) :
    Calls Try.prog 39 #[.slice (some ad) l.length c] w fun e w' => ∃ v : Value, True ∧ e = .returned v ∧ St w Cold [.own v 3 1 l.length (l.map (Value.int .i64))] w' := by
  rw [map_flat]
  refine eng_start (n := 8) (args := [.slice (some ad) l.length c]) tab tab_ok fns fns_ok [.tmp 2] Try.func39 rfl rfl rfl rfl ?_
  repeat' (first
   | (refine gJ ?_
      first
      | refine jmv rfl rfl rfl rfl rfl ?_
      | refine jcmp rfl rfl rfl rfl rfl rfl rfl ?_
      | (refine j_qe rfl rfl rfl ?_; refine ⟨_, q_eqlsome rfl rfl rfl rfl rfl, ?_⟩)
      | (refine j_build0 rfl rfl rfl rfl rfl rfl ?_; intro b1)
      | (refine j_appendS (cs := l.flatMap intC) (n := 0) (A := some ad) (k := l.length) (c := c) rfl rfl rfl rfl rfl rfl rfl rfl rfl rfl rfl (fun w' hs => reads_ext (f := intC) (fun _ => rfl) (fun _ => rfl) (h.st hs).rs (h.st hs).nil) (by (repeat (first | exact InL.here | apply InL.there))) (by omega) (fun _ => by (repeat (first | exact Upd.here | apply Upd.there))) ?_; intro v9)
      | (refine j_buildSlice rfl rfl rfl rfl rfl rfl rfl rfl rfl rfl rfl rfl ?_; intro b)
      | (refine j_append rfl rfl rfl rfl rfl rfl rfl rfl rfl rfl rfl (by (repeat (first | exact InL.here | apply InL.there))) (by (repeat (first | exact InL.here | apply InL.there))) (by rfl) (by rfl) (by omega) (fun _ => by (repeat (first | exact Upd.here | apply Upd.there))) ?_; intro v))
   | (refine gSC ?_
      first
      | refine sc_seq ?_
      | refine sc_region ?_
      | (refine sc_cond rfl ?_ ?_ <;> intro hc <;> (first | (exact absurd hc (by decide)) | ((try simp only [decide_eq_true_eq, decide_eq_false_iff_not, Bool.not_eq_true', Bool.not_eq_false', Bool.not_true, Bool.not_false, ne_eq, Decidable.not_not] at hc) <;> first | (exfalso; omega) | (exact absurd trivial hc) | skip)))
      | refine sc_block ?_
      | refine sc_ret ?_
      | refine sc_exit ?_
      | refine sc_skip ?_)
   | (refine gSQ ?_
      first
      | refine sq_seq ?_
      | refine sq_blk ?_
      | refine sq_seq_ret ?_
      | refine sq_blk_ret ?_
      | refine sq_loop_ret ?_
      | refine sq_seq_exit ?_
      | refine sq_blk_hit ?_
      | refine sq_blk_miss rfl ?_
      | refine sq_loop_exit ?_
      | refine sq_ende (.inl rfl) rfl rfl ⟨_, (RVs.cons (RV.tmp rfl) (RVs.nil)), ?_⟩
      | refine sq_ende (.inr rfl) rfl rfl ⟨_, (RVs.cons (RV.tmp rfl) (RVs.nil)), ?_⟩)
   | refine j_nil ?_
   )
  intro w' hS
  refine ⟨_, trivial, rfl, ?_⟩
  have h9 : (HA.own ‹Value› 3 1 (0 + l.length) ([] ++ l.flatMap intC)) = .own ‹Value› 3 1 l.length (l.flatMap intC) := by rw [Nat.zero_add, List.nil_append]
  exact h9 ▸ hS.sub (by repeat (first | exact LSub.nil | refine LSub.cons (by repeat (first | exact Rem.here | apply Rem.there)) ?_))
def sortI (l : List Int) : List Int := l.mergeSort fun x y => decide (x ≤ y)
theorem sort_len (l : List Int) : (sortI l).length = l.length := List.length_mergeSort l
theorem sortI_c {w0 w : World} {hot : Nat → Prop} {L L' : List HA} {v : Value} {e : Nat} {zs : List Int} (hs : St w0 hot L w) (hlen : zs.length < 4611686018427387904)
    (hup : Upd L (.own v e 1 zs.length (zs.map (Value.int .i64))) (.own v e 1 zs.length ((sortI zs).map (Value.int .i64))) L') :
    Calls Try.prog 66 #[v] w fun e w' => ∃ u : Unit, True ∧ e = .returned (.tuple #[]) ∧ St w0 hot L' w' := sort_c hs hlen hup
attribute [local irreducible] sortI
/-- The place of a quantile. -/
def rank (n q : Nat) : Nat := max ((q * n + 9999) / 10000) 1 - 1
theorem rank_nat (n q : Nat) : ∃ k, k + 1 = max ((q * n + 9999) / 10000) 1 ∧ rank n q = k := ⟨_, Nat.sub_add_cancel (Nat.le_max_right _ _), rfl⟩
theorem max_lem (m : Nat) : (if (m : Int) < 1 then 1 else (m : Int)) = ((max m 1 : Nat) : Int) := by
  by_cases h : m < 1
  · rw [if_pos (by omega), Nat.max_eq_right (by omega)]
    rfl
  · rw [if_neg (by omega), Nat.max_eq_left (by omega)]
theorem idx_lem (k : Nat) : k = (((k + 1 : Nat) : Int) - 1).toNat := by omega
theorem rank_lt {n q : Nat} (hn : 0 < n) (hq : q ≤ 10000) : rank n q < n := by
  unfold rank
  have : q * n ≤ 10000 * n := Nat.mul_le_mul_right _ hq
  omega
def quantF (l : List Int) (q : Int) : Int × Int :=
  if 10000 < l.length then (0, 5) else if q < 0 ∨ 10000 < q then (0, 2) else if l.length = 0 then (0, 6) else (((sortI l)[rank l.length q.toNat]?).getD 0, 0)
theorem quant_e (A : Option Addr) (c : Nat) (l : List Int) (q : Int) (w : World) (hl : l.length ≤ 9223372036854775807) (hbad : 10000 < l.length ∨ (q < 0 ∨ 10000 < q) ∨ l.length = 0) :
    Calls Try.prog 37 #[.slice A l.length c, .int .i64 q] w fun e w' => e = .returned (.tuple #[.int .i64 (quantF l q).1, .int .i64 (quantF l q).2]) ∧ Below w.heap.size w w' := by
  generalize hn : l.length = n at *
  refine eng_start (n := 37) (args := [.slice A n c, .int .i64 q]) tab tab_ok fns fns_ok [.tmp 4, .tmp 5] Try.func37 rfl rfl rfl rfl ?_
  repeat' (first
   | (refine gJ ?_
      first
      | refine jmv rfl rfl rfl rfl rfl ?_
      | (refine gload rfl rfl ?_
         refine j_qe rfl rfl rfl ?_
         first
         | refine ⟨_, q_load_own rfl rfl rfl rfl (by (repeat (first | exact InL.here | apply InL.there))) (by first | rfl | assumption), ?_⟩
         | refine ⟨_, q_loadA_own rfl rfl rfl rfl (by (repeat (first | exact InL.here | apply InL.there))) (by rfl), ?_⟩
         | refine ⟨_, q_loadA_ext rfl rfl rfl rfl ⟨by assumption, (by first | exact id | assumption)⟩ (by rfl), ?_⟩
         | refine ⟨_, q_load_ext rfl rfl rfl rfl ⟨by assumption, (by first | exact id | assumption)⟩ (by first | rfl | assumption), ?_⟩
         | refine ⟨_, q_load_extb rfl rfl rfl rfl ⟨by assumption, (by first | exact id | assumption)⟩ (by rfl), ?_⟩
         | refine ⟨_, q_loadA_extb rfl rfl rfl rfl ⟨by assumption, (by first | exact id | assumption)⟩ (by rfl), ?_⟩
         | refine ⟨_, q_load_ext0 rfl rfl rfl rfl ⟨by assumption, (by first | exact id | assumption)⟩ (by rfl), ?_⟩)
      | refine jcmp rfl rfl rfl rfl rfl rfl rfl ?_
      | refine jar rfl rfl rfl rfl rfl rfl rfl (by omega) ?_
      | (refine j_qe rfl rfl rfl ?_
         first
         | refine ⟨_, q_pick_t rfl rfl rfl, ?_⟩
         | refine ⟨_, q_pick_f rfl rfl rfl, ?_⟩
         | refine ⟨_, q_index_nat rfl rfl rfl rfl rfl (by omega), ?_⟩
         | refine ⟨_, q_index_slice rfl rfl rfl rfl rfl (by omega), ?_⟩
         | refine ⟨_, q_index_arr rfl rfl rfl rfl rfl (by omega), ?_⟩
         | refine ⟨_, q_index_arr_ext rfl rfl rfl rfl rfl (by omega), ?_⟩
         | refine ⟨_, q_len_slice rfl rfl rfl rfl, ?_⟩
         | refine ⟨_, q_quo rfl rfl rfl (by omega), ?_⟩
         | refine ⟨_, q_quot rfl rfl rfl (by omega), ?_⟩
         | refine ⟨_, q_addu8 rfl rfl rfl (by omega), ?_⟩
         | refine ⟨_, q_quou8 rfl rfl rfl (by omega), ?_⟩)
      | refine j_guard_undef rfl rfl rfl rfl rfl ?_
      | (refine j_guard rfl rfl rfl rfl rfl ?_ ?_ <;> intro hc <;> (first | (exact absurd hc (by decide)) | ((try simp only [decide_eq_true_eq, decide_eq_false_iff_not, Bool.not_eq_true', Bool.not_eq_false', Bool.not_true, Bool.not_false, ne_eq, Decidable.not_not] at hc) <;> first | (exfalso; omega) | (exact absurd trivial hc) | skip))))
   | (refine gSC ?_
      first
      | refine sc_seq ?_
      | refine sc_region ?_
      | (refine sc_cond rfl ?_ ?_ <;> intro hc <;> (first | (exact absurd hc (by decide)) | ((try simp only [decide_eq_true_eq, decide_eq_false_iff_not, Bool.not_eq_true', Bool.not_eq_false', Bool.not_true, Bool.not_false, ne_eq, Decidable.not_not] at hc) <;> first | (exfalso; omega) | (exact absurd trivial hc) | skip)))
      | refine sc_block ?_
      | refine sc_ret ?_
      | refine sc_exit ?_
      | refine sc_skip ?_)
   | (refine gSQ ?_
      first
      | refine sq_seq ?_
      | refine sq_blk ?_
      | refine sq_seq_ret ?_
      | refine sq_blk_ret ?_
      | refine sq_loop_ret ?_
      | refine sq_seq_exit ?_
      | refine sq_blk_hit ?_
      | refine sq_blk_miss rfl ?_
      | refine sq_loop_exit ?_
      | refine sq_ende (.inl rfl) rfl rfl ⟨_, (RVs.cons (RV.tmp rfl) (RVs.cons (RV.tmp rfl) (RVs.nil))), ?_⟩
      | refine sq_ende (.inr rfl) rfl rfl ⟨_, (RVs.cons (RV.tmp rfl) (RVs.cons (RV.tmp rfl) (RVs.nil))), ?_⟩)
   | refine j_nil ?_
   )
  all_goals (try (exfalso; omega))
  all_goals ((intro w' hS; refine ⟨?_, hS.below⟩; simp only [pack]); unfold quantF; rw [hn]; (repeat' split) <;> first | rfl | (exfalso; omega))
set_option maxRecDepth 20000 in
theorem quant_c (A : Option Addr) (c : Nat) (l : List Int) (q : Nat) (w : World) (hl : l.length ≤ 10000) (h0 : 0 < l.length) (hq : q ≤ 10000) (h : SI w A c l) :
    Calls Try.prog 37 #[.slice A l.length c, .int .i64 q] w fun e w' => e = .returned (.tuple #[.int .i64 (((sortI l)[rank l.length q]?).getD 0), .int .i64 0]) ∧ Below w.heap.size w w' := by
  obtain ⟨x0, hx0⟩ : ∃ x, l[0]? = some x := ⟨_, List.getElem?_eq_getElem h0⟩
  obtain ⟨ad, rfl, -⟩ := h.rs 0 x0 hx0
  have hcl := fun w' h => clone_c ad c l w' (by omega) h
  obtain ⟨n, hn⟩ : ∃ n, l.length = n := ⟨_, rfl⟩
  have hr := rank_lt (n := n) (q := q) (by omega) hq
  have hsl : (sortI l).length = n := by rw [sort_len, hn]
  obtain ⟨x, hx⟩ : ∃ x, (sortI l)[rank n q]? = some x := ⟨_, List.getElem?_eq_getElem (by omega)⟩
  rw [hn] at hcl ⊢
  rw [hx]
  have hmul : (q : Int) * n ≤ 100000000 ∧ 0 ≤ (q : Int) * n := ⟨by
    have := Int.mul_le_mul (by omega : (q : Int) ≤ 10000) (by omega : (n : Int) ≤ 10000) (by omega) (by omega)
    omega, Int.mul_nonneg (by omega) (by omega)⟩
  obtain ⟨m, hm⟩ : ∃ m, m = (q * n + 9999) / 10000 := ⟨_, rfl⟩
  have em : ((q : Int) * n + 10000 - 1) / 10000 = (m : Int) := by
    obtain ⟨P, hP⟩ : ∃ P, P = q * n := ⟨_, rfl⟩
    have hP2 : (q : Int) * n = (P : Int) := by rw [hP, Int.natCast_mul]
    rw [← hP] at hm
    rw [hP2]
    omega
  obtain ⟨k, hk1, hk2⟩ := rank_nat n q
  rw [← hm] at hk1
  have hmax : (if ((q : Int) * n + 10000 - 1) / 10000 < 1 then 1 else ((q : Int) * n + 10000 - 1) / 10000) = ((k + 1 : Nat) : Int) := by
    rw [em, hk1]
    exact max_lem m
  rw [hk2] at hx hr
  have hx' := hx
  rw [show k = (((k + 1 : Nat) : Int) - 1).toNat from idx_lem k] at hx'
  clear em hk1 hk2 hm
  refine eng_start (n := 37) (args := [.slice (some ad) n c, .int .i64 q]) tab tab_ok fns fns_ok [.tmp 4, .tmp 5] Try.func37 rfl rfl rfl rfl ?_
  repeat' (first
   | (refine gJ ?_
      first
      | refine jmv rfl rfl rfl rfl rfl ?_
      | refine jcmp rfl rfl rfl rfl rfl rfl rfl ?_
      | refine jar rfl rfl rfl rfl rfl rfl rfl (by omega) ?_
      | (refine gcall rfl rfl ?_; refine j_callN (f := 39) rfl rfl rfl rfl rfl rfl rfl (fun v => v) (fun _ => True) (fun v => [.own v 3 1 n (l.map (Value.int .i64))]) (fun w' hs => hcl w' (h.st hs)) (fun _ => trivial) ?_; rintro v9 _; refine j_ownq (v := v9) (by (repeat (first | exact InL.here | apply InL.there))) (by omega) ?_; rintro ad2 c2 rfl hc2)
      | (refine gcall rfl rfl ?_; refine j_call (f := 66) (ξ := Unit) (fun _ => .tuple #[]) (fun _ => True) (fun _ => [.own (.slice (some ad2) n c2) 3 1 n ((sortI l).map (Value.int .i64))]) rfl rfl rfl rfl rfl rfl rfl (fun w' hs => by subst hn; exact sortI_c (zs := l) (v := .slice (some ad2) l.length c2) (e := 3) hs (by omega) (by (repeat (first | exact Upd.here | apply Upd.there)))) ?_; intro _ _; rw [map_flat (sortI l)])
      | (refine j_qe rfl rfl rfl ?_; refine ⟨_, q_maxr rfl rfl rfl hmax, ?_⟩)
      | (refine j_qe rfl rfl rfl ?_; refine ⟨_, q_row1 (f := intC) rfl rfl rfl rfl (by (repeat (first | exact InL.here | apply InL.there))) (fun _ => rfl) hx' rfl, ?_⟩)
      | (refine j_qe rfl rfl rfl ?_
         first
         | refine ⟨_, q_pick_t rfl rfl rfl, ?_⟩
         | refine ⟨_, q_pick_f rfl rfl rfl, ?_⟩
         | refine ⟨_, q_index_nat rfl rfl rfl rfl rfl (by omega), ?_⟩
         | refine ⟨_, q_index_slice rfl rfl rfl rfl rfl (by omega), ?_⟩
         | refine ⟨_, q_index_arr rfl rfl rfl rfl rfl (by omega), ?_⟩
         | refine ⟨_, q_index_arr_ext rfl rfl rfl rfl rfl (by omega), ?_⟩
         | refine ⟨_, q_len_slice rfl rfl rfl rfl, ?_⟩
         | refine ⟨_, q_quo rfl rfl rfl (by omega), ?_⟩
         | refine ⟨_, q_quot rfl rfl rfl (by omega), ?_⟩
         | refine ⟨_, q_addu8 rfl rfl rfl (by omega), ?_⟩
         | refine ⟨_, q_quou8 rfl rfl rfl (by omega), ?_⟩)
      | refine j_guard_undef rfl rfl rfl rfl rfl ?_
      | (refine j_guard rfl rfl rfl rfl rfl ?_ ?_ <;> intro hc <;> (first | (exact absurd hc (by decide)) | ((try simp only [decide_eq_true_eq, decide_eq_false_iff_not, Bool.not_eq_true', Bool.not_eq_false', Bool.not_true, Bool.not_false, ne_eq, Decidable.not_not] at hc) <;> first | (exfalso; omega) | (exact absurd trivial hc) | skip))))
   | (refine gSC ?_
      first
      | refine sc_seq ?_
      | refine sc_region ?_
      | (refine sc_cond rfl ?_ ?_ <;> intro hc <;> (first | (exact absurd hc (by decide)) | ((try simp only [decide_eq_true_eq, decide_eq_false_iff_not, Bool.not_eq_true', Bool.not_eq_false', Bool.not_true, Bool.not_false, ne_eq, Decidable.not_not] at hc) <;> first | (exfalso; omega) | (exact absurd trivial hc) | skip)))
      | refine sc_block ?_
      | refine sc_ret ?_
      | refine sc_exit ?_
      | refine sc_skip ?_)
   | (refine gSQ ?_
      first
      | refine sq_seq ?_
      | refine sq_blk ?_
      | refine sq_seq_ret ?_
      | refine sq_blk_ret ?_
      | refine sq_loop_ret ?_
      | refine sq_seq_exit ?_
      | refine sq_blk_hit ?_
      | refine sq_blk_miss rfl ?_
      | refine sq_loop_exit ?_
      | refine sq_ende (.inl rfl) rfl rfl ⟨_, (RVs.cons (RV.tmp rfl) (RVs.cons (RV.tmp rfl) (RVs.nil))), ?_⟩
      | refine sq_ende (.inr rfl) rfl rfl ⟨_, (RVs.cons (RV.tmp rfl) (RVs.cons (RV.tmp rfl) (RVs.nil))), ?_⟩)
   | refine j_nil ?_
   )
  (intro w' hS; refine ⟨?_, hS.below⟩; simp only [pack])
  rfl
end Go.Proofs.Ytmlgheoliaplgaa
