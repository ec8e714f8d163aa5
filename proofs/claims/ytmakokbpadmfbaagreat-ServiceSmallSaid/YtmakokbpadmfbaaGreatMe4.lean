/-
  In one text: Qua, Me4.
-/
import Derived.Test.YtmakokbpadmfbaaGreatNat2
import Derived.Test.YtmakokbpadmfbaaGreatEngCoreB
import Derived.Test.YtmakokbpadmfbaaGreatSh
import Derived.Sort.OwnSortedInts
import Derived.Test.YtmakokbpadmfbaaGreatMe3
/-
  stats: Quantile.
-/
namespace Go.Proofs.YtmakokbpadmfbaaGreat
open Go.RowKit Eng
set_option linter.unusedVariables false
set_option linter.unusedSimpArgs false
set_option maxHeartbeats 8000000
attribute [local irreducible] SC SQ J Qt Calls Iterates LSub FSub
section
variable {C : Cx} {F : Fr} {L : List HA} {o : Oper} {K : List KI} {ops : Array Oper} {rest : List Oper}
attribute [local semireducible] SC J
theorem j_ownq {l : List Oper} {v : Value} {e sz n : Nat} {xs : List Value} (hin : InL L (.own v e sz n xs)) (hn : 0 < n) (h : ∀ ad c, v = .slice (some ad) n c → n ≤ c → J C ops false l K F L) : J C ops false l K F L := fun a w hf hs => by
  have hA := hs.at hin
  rcases hA.2.2 with ⟨_, h0⟩ | ⟨g, cap, cur, hv, _, _, hnc, _⟩
  · omega
  · exact h _ _ hv hnc a w hf hs
end
open Go.Sort Go.RowKit in
theorem sort_c {w0 w : World} {hot : Nat → Prop} {L L' : List HA} {v : Value} {e : Nat} {zs : List Int} (hs : St w0 hot L w) (hlen : zs.length < 4611686018427387904)
    (hup : Upd L (.own v e 1 zs.length (zs.map (Value.int .i64))) (.own v e 1 zs.length ((zs.mergeSort fun x y => decide (x ≤ y)).map (Value.int .i64))) L') :
    Calls Tryz.prog 79 #[v] w fun e w' => ∃ u : Unit, True ∧ e = .returned (.tuple #[]) ∧ St w0 hot L' w' := by
  obtain ⟨N, hp1, hp2⟩ := hup.perm
  have hA := (hs.perm hp1).head
  rcases hA.2.2 with ⟨rfl, hn⟩ | ⟨g, cap, cur, rfl, hg, hh, hcap, hmax, hsz, htk⟩
  · have hz : zs = [] := List.length_eq_zero_iff.1 hn
    subst hz
    refine (Tryz.slices_Sort_int_none none 0 w).mono fun e' w' ⟨he, hw⟩ => ⟨(), trivial, he, ?_⟩
    subst hw
    exact (hs.perm hp1).perm (by simpa using hp2.symm)
  · have hH := holds_of_blockI (ss := zs) hh (by simpa using htk)
    have hlt := (Array.getElem?_eq_some_iff.1 hh).1
    refine (Tryz.slices_Sort_int g 0 cap zs w hH hlt hlen).mono fun e' w' ⟨he, n, os, hw⟩ => ⟨(), trivial, he, ?_⟩
    subst hw
    have hgb := grownBy_sortedI (w := w) (g := g) (n := n) (os := os) (zs.mergeSort fun x y => decide (x ≤ y)).toArray
    have hrow := ownsRow_sortedI (n := n) (os := os) (ts := zs.mergeSort fun x y => decide (x ≤ y)) (ss := zs) (by simp) hg hh hcap hmax (by simpa using hsz)
    refine hs.upd hup ⟨hgb.os, hgb.tape, hgb.output, hgb.size, fun k hk => by omega⟩ (fun b hb hne => hgb.block b hb (fun e => hne ?_)) ⟨hA.1, hrow⟩ (fun b hb => .inl hb)
    exact (congrArg id e.symm : (Value.slice (some ⟨g, 0, none⟩) zs.length cap).ownBlock = some b)
/-- A slice of numbers that came in. -/
structure SI (w : World) (A : Option Addr) (c : Nat) (l : List Int) : Prop where
  rs : RS w 1 intC A l
  nil : A = none → l = [] ∧ c = 0
theorem SI.st {w0 w : World} {A : Option Addr} {c : Nat} {l : List Int} (h : SI w0 A c l) {L : List HA} (hs : St w0 Cold L w) : SI w A c l := ⟨h.rs.st hs, h.nil⟩
theorem map_flat (l : List Int) : l.map (Value.int .i64) = l.flatMap intC := by
  induction l with
  | nil => rfl
  | cons x l ih => simp [ih]
theorem clone_c (ad : Addr) (c : Nat) (l : List Int) (w : World) (hl : l.length ≤ 1000000) (h : SI w (some ad) c l) :
    Calls Tryz.prog 78 #[.slice (some ad) l.length c] w fun e w' => ∃ v : Value, True ∧ e = .returned v ∧ St w Cold [.own v 3 1 l.length (l.map (Value.int .i64))] w' := by
  rw [map_flat]
  refine eng_start (n := 8) (args := [.slice (some ad) l.length c]) tab tab_ok fns fns_ok [.tmp 2] Tryz.func78 rfl rfl rfl rfl ?_
  repeat' (first | (refine gJ ?_; first | refine js rfl rfl rfl rfl ?_ | (refine j_qe rfl rfl rfl ?_; refine ⟨_, q_eqlsome rfl rfl rfl rfl rfl, ?_⟩) | (refine gF ?_; refine j_build0 rfl rfl rfl rfl rfl rfl ?_; intro b1) | (refine gF ?_; refine j_appendS (cs := l.flatMap intC) (n := 0) (A := some ad) (k := l.length) (c := c) rfl rfl rfl rfl rfl rfl rfl rfl rfl rfl rfl (fun w' hs => reads_ext (f := intC) (fun _ => rfl) (fun _ => rfl) (h.st hs).rs (h.st hs).nil) (by (repeat constructor)) (by omega) (fun _ => by (repeat constructor)) ?_; intro v9)) | (refine gSC ?_; first | refine sc_mv rfl ?_ | refine sc_q rfl ?_ | refine sc_region ?_) | (refine gSQ ?_; first | refine sq_go rfl ?_ | refine sq_ende (by first | exact .inl rfl | exact .inr rfl) rfl rfl ⟨_, (RVs.cons (RV.tmp rfl) (RVs.nil)), ?_⟩) | refine j_nil ?_ | ((refine sc_cond rfl ?_ ?_) <;> intro hc <;> (first | exact absurd hc (by decide) | ((try simp only [engHC] at hc) <;> skip))))
  intro w' hS
  refine ⟨_, trivial, rfl, ?_⟩
  have h9 : (HA.own ‹Value› 3 1 (0 + l.length) ([] ++ l.flatMap intC)) = .own ‹Value› 3 1 l.length (l.flatMap intC) := by rw [Nat.zero_add, List.nil_append]
  exact h9 ▸ hS.sub (by repeat (first | exact LSub.nil | refine LSub.cons (by repeat (first | exact Rem.here | apply Rem.there)) ?_))
def sortI (l : List Int) : List Int := l.mergeSort fun x y => decide (x ≤ y)
theorem sort_len (l : List Int) : (sortI l).length = l.length := List.length_mergeSort l
theorem sortI_c {w0 w : World} {hot : Nat → Prop} {L L' : List HA} {v : Value} {e : Nat} {zs : List Int} (hs : St w0 hot L w) (hlen : zs.length < 4611686018427387904)
    (hup : Upd L (.own v e 1 zs.length (zs.map (Value.int .i64))) (.own v e 1 zs.length ((sortI zs).map (Value.int .i64))) L') :
    Calls Tryz.prog 79 #[v] w fun e w' => ∃ u : Unit, True ∧ e = .returned (.tuple #[]) ∧ St w0 hot L' w' := sort_c hs hlen hup
attribute [local irreducible] sortI
/-- The place of a quantile. -/
def rank (n q : Nat) : Nat := max ((q * n + 9999) / 10000) 1 - 1
theorem rank_nat (n q : Nat) : ∃ k, k + 1 = max ((q * n + 9999) / 10000) 1 ∧ rank n q = k := ⟨_, Nat.sub_add_cancel (Nat.le_max_right _ _), rfl⟩
theorem max_lem (m : Nat) : (if (m : Int) < 1 then 1 else (m : Int)) = ((max m 1 : Nat) : Int) := by
  by_cases h : m < 1
  · rw [if_pos (by omega), Nat.max_eq_right (by omega)]
    rfl
  · rw [if_neg (by omega), Nat.max_eq_left (by omega)]
theorem idx_lem (k : Nat) : k = (((k + 1 : Nat) : Int) - 1).toNat := by omega
theorem rank_lt {n q : Nat} (hn : 0 < n) (hq : q ≤ 10000) : rank n q < n := by
  unfold rank
  have : q * n ≤ 10000 * n := Nat.mul_le_mul_right _ hq
  omega
def quantF (l : List Int) (q : Int) : Int × Int :=
  if 10000 < l.length then (0, 5) else if q < 0 ∨ 10000 < q then (0, 2) else if l.length = 0 then (0, 6) else (((sortI l)[rank l.length q.toNat]?).getD 0, 0)
set_option maxRecDepth 20000 in
theorem quant_c (A : Option Addr) (c : Nat) (l : List Int) (q : Nat) (w : World) (hl : l.length ≤ 10000) (h0 : 0 < l.length) (hq : q ≤ 10000) (h : SI w A c l) :
    Calls Tryz.prog 49 #[.slice A l.length c, .int .i64 q] w fun e w' => e = .returned (.tuple #[.int .i64 (((sortI l)[rank l.length q]?).getD 0), .int .i64 0]) ∧ Below w.heap.size w w' := by
  obtain ⟨x0, hx0⟩ : ∃ x, l[0]? = some x := ⟨_, List.getElem?_eq_getElem h0⟩
  obtain ⟨ad, rfl, -⟩ := h.rs 0 x0 hx0
  have hcl := fun w' h => clone_c ad c l w' (by omega) h
  obtain ⟨n, hn⟩ : ∃ n, l.length = n := ⟨_, rfl⟩
  have hr := rank_lt (n := n) (q := q) (by omega) hq
  have hsl : (sortI l).length = n := by rw [sort_len, hn]
  obtain ⟨x, hx⟩ : ∃ x, (sortI l)[rank n q]? = some x := ⟨_, List.getElem?_eq_getElem (by omega)⟩
  rw [hn] at hcl ⊢
  rw [hx]
  have hmul : (q : Int) * n ≤ 100000000 ∧ 0 ≤ (q : Int) * n := ⟨by
    have := Int.mul_le_mul (by omega : (q : Int) ≤ 10000) (by omega : (n : Int) ≤ 10000) (by omega) (by omega)
    omega, Int.mul_nonneg (by omega) (by omega)⟩
  obtain ⟨m, hm⟩ : ∃ m, m = (q * n + 9999) / 10000 := ⟨_, rfl⟩
  have em : ((q : Int) * n + 10000 - 1) / 10000 = (m : Int) := by
    obtain ⟨P, hP⟩ : ∃ P, P = q * n := ⟨_, rfl⟩
    have hP2 : (q : Int) * n = (P : Int) := by rw [hP, Int.natCast_mul]
    rw [← hP] at hm
    rw [hP2]
    omega
  obtain ⟨k, hk1, hk2⟩ := rank_nat n q
  rw [← hm] at hk1
  have hmax : (if ((q : Int) * n + 10000 - 1) / 10000 < 1 then 1 else ((q : Int) * n + 10000 - 1) / 10000) = ((k + 1 : Nat) : Int) := by
    rw [em, hk1]
    exact max_lem m
  rw [hk2] at hx hr
  have hx' := hx
  rw [show k = (((k + 1 : Nat) : Int) - 1).toNat from idx_lem k] at hx'
  clear em hk1 hk2 hm
  refine eng_start (n := 37) (args := [.slice (some ad) n c, .int .i64 q]) tab tab_ok fns fns_ok [.tmp 4, .tmp 5] Tryz.func49 rfl rfl rfl rfl ?_
  repeat' (first | (refine gJ ?_; first | refine js rfl rfl rfl rfl ?_ | refine jar rfl rfl rfl rfl rfl rfl rfl (by omega) ?_ | (refine gcall rfl rfl ?_; refine gF ?_; refine j_callN (f := 78) rfl rfl rfl rfl rfl rfl rfl (fun v => v) (fun _ => True) (fun v => [.own v 3 1 n (l.map (Value.int .i64))]) (fun w' hs => hcl w' (h.st hs)) (fun _ => trivial) ?_; rintro v9 _; refine j_ownq (v := v9) (by (repeat constructor)) (by omega) ?_; rintro ad2 c2 rfl hc2) | (refine gcall rfl rfl ?_; refine gF ?_; refine j_call (f := 79) (ξ := Unit) (fun _ => .tuple #[]) (fun _ => True) (fun _ => [.own (.slice (some ad2) n c2) 3 1 n ((sortI l).map (Value.int .i64))]) rfl rfl rfl rfl rfl rfl rfl (fun w' hs => by subst hn; exact sortI_c (zs := l) (v := .slice (some ad2) l.length c2) (e := 3) hs (by omega) (by (repeat constructor))) ?_; intro _ _; rw [map_flat (sortI l)]) | (refine j_qe rfl rfl rfl ?_; refine ⟨_, q_maxr rfl rfl rfl hmax, ?_⟩) | (refine j_qe rfl rfl rfl ?_; refine ⟨_, q_row1 (f := intC) rfl rfl rfl rfl (by (repeat constructor)) (fun _ => rfl) hx' rfl, ?_⟩) | (refine j_qe rfl rfl rfl ?_; first | refine ⟨_, q_index_slice rfl rfl rfl rfl rfl (by omega), ?_⟩ | refine ⟨_, q_len_slice rfl rfl rfl rfl, ?_⟩ | refine ⟨_, q_quo rfl rfl rfl (by omega), ?_⟩)) | (refine gSC ?_; first | refine sc_mv rfl ?_ | refine sc_q rfl ?_ | refine sc_region ?_) | (refine gSQ ?_; first | refine sq_go rfl ?_ | refine sq_ende (by first | exact .inl rfl | exact .inr rfl) rfl rfl ⟨_, (RVs.cons (RV.tmp rfl) (RVs.cons (RV.tmp rfl) (RVs.nil))), ?_⟩) | refine j_nil ?_ | ((first | refine j_guard rfl rfl rfl rfl rfl ?_ ?_ | refine sc_cond rfl ?_ ?_) <;> intro hc <;> (first | exact absurd hc (by decide) | ((try simp only [engHC] at hc) <;> first | (exfalso; omega) | skip))))
  (intro w' hS; refine ⟨?_, hS.below⟩; simp only [pack])
  rfl
end Go.Proofs.YtmakokbpadmfbaaGreat


/-
  service: Measure, Classes, Verdict, Transit; the items that are made.
-/
namespace Go.Proofs.YtmakokbpadmfbaaGreat
open Go.RowKit Eng
set_option linter.unusedVariables false
set_option linter.unusedSimpArgs false
set_option maxHeartbeats 8000000
attribute [local irreducible] SC SQ J Qt Calls Iterates LSub FSub
def ofM (x : Sn) : Lane := ⟨x.cl, x.fr, x.to⟩
def ofC (x : Sn) : Lane := ⟨x.cl, 0, 0⟩
theorem g37_c (x : Sn) (w : World) : Calls Tryz.prog 37 #[snV x] w fun e w' => e = .returned (lnV (ofM x)) ∧ Below w.heap.size w w' := by
  refine eng_start (n := 10) (args := [snV x]) tab tab_ok fns fns_ok [.cell 2 74] Tryz.func37 rfl rfl rfl rfl ?_
  repeat' (first | (refine gJ ?_; first | (refine gload rfl rfl ?_; refine j_qe rfl rfl rfl ?_; refine ⟨_, q_load_own rfl rfl rfl rfl (by (repeat constructor)) (by first | rfl | assumption), ?_⟩) | refine jfield rfl rfl rfl rfl rfl rfl rfl rfl ?_ | (refine gF ?_; first | refine j_store rfl rfl rfl rfl rfl rfl rfl rfl (by (repeat constructor)) (by rfl) ?_ | (refine j_alloc rfl rfl rfl rfl rfl ?_; intro b) | (refine j_box rfl rfl rfl rfl rfl ?_; intro b)) | (refine j_qe rfl rfl rfl ?_; refine ⟨_, q_build_struct rfl rfl rfl rfl rfl, ?_⟩)) | (refine gSC ?_; first | refine sc_mv rfl ?_ | refine sc_q rfl ?_ | refine sc_region ?_) | (refine gSQ ?_; first | refine sq_go rfl ?_ | refine sq_ende (by first | exact .inl rfl | exact .inr rfl) rfl rfl ⟨_, (RVs.cons (by first | exact RV.cell rfl rfl rfl (by (repeat constructor)) (by rfl) | exact RV.cellA rfl rfl rfl (by (repeat constructor)) (by rfl)) (RVs.nil)), ?_⟩) | refine j_nil ?_)
  (intro w' hS; refine ⟨?_, hS.below⟩; simp only [pack])
  rfl
theorem g38_c (x : Sn) (w : World) : Calls Tryz.prog 38 #[snV x] w fun e w' => e = .returned (lnV (ofC x)) ∧ Below w.heap.size w w' := by
  refine eng_start (n := 6) (args := [snV x]) tab tab_ok fns fns_ok [.cell 2 74] Tryz.func38 rfl rfl rfl rfl ?_
  repeat' (first | (refine gJ ?_; first | (refine gload rfl rfl ?_; refine j_qe rfl rfl rfl ?_; refine ⟨_, q_load_own rfl rfl rfl rfl (by (repeat constructor)) (by first | rfl | assumption), ?_⟩) | refine jfield rfl rfl rfl rfl rfl rfl rfl rfl ?_ | (refine gF ?_; first | refine j_store rfl rfl rfl rfl rfl rfl rfl rfl (by (repeat constructor)) (by rfl) ?_ | (refine j_alloc rfl rfl rfl rfl rfl ?_; intro b) | (refine j_box rfl rfl rfl rfl rfl ?_; intro b)) | (refine j_qe rfl rfl rfl ?_; refine ⟨_, q_build_struct rfl rfl rfl rfl rfl, ?_⟩)) | (refine gSC ?_; first | refine sc_mv rfl ?_ | refine sc_q rfl ?_ | refine sc_region ?_) | (refine gSQ ?_; first | refine sq_go rfl ?_ | refine sq_ende (by first | exact .inl rfl | exact .inr rfl) rfl rfl ⟨_, (RVs.cons (by first | exact RV.cell rfl rfl rfl (by (repeat constructor)) (by rfl) | exact RV.cellA rfl rfl rfl (by (repeat constructor)) (by rfl)) (RVs.nil)), ?_⟩) | refine j_nil ?_)
  (intro w' hS; refine ⟨?_, hS.below⟩; simp only [pack])
  rfl
theorem measure_c (g : Nat) (hgc : has fns g = true) (of : Sn → Lane) (hg : ∀ x w, Calls Tryz.prog g #[snV x] w fun e w' => e = .returned (lnV (of x)) ∧ Below w.heap.size w w') (A : Option Addr) (c : Nat) (l : List Sd) (B : Option Addr) (bc : Nat) (s : List Sn) (now risk : Int) (w : World) (hl : l.length ≤ 9223372036854775807) (hsl : s.length ≤ 9223372036854775807)
    (h : RS w 4 sdC A l) (h2 : RS w 6 snC B s) :
    Calls Tryz.prog 36 #[.slice A l.length c, .slice B s.length bc, .int .i64 now, .int .i64 risk, .func (.func g) #[] #[]] w fun e w' => ∃ v : Value, True ∧ e = .returned (.tuple #[v, .int .i64 (msF of l s now risk).1]) ∧ St w Cold [.own v 35 9 (msF of l s now risk).2.length ((msF of l s now risk).2.flatMap rwC)] w' := by
  by_cases hok : msOk l s now risk
  · exact measure_ok g hgc of hg A c l B bc s now risk w hl h h2 hok
  · exact measure_bad g of A c l B bc s now risk w hl hsl h h2 hok
theorem Measure_c (A : Option Addr) (c : Nat) (l : List Sd) (B : Option Addr) (bc : Nat) (s : List Sn) (now risk : Int) (w : World) (hl : l.length ≤ 9223372036854775807) (hsl : s.length ≤ 9223372036854775807) (h : RS w 4 sdC A l) (h2 : RS w 6 snC B s) :
    Calls Tryz.prog 17 #[.slice A l.length c, .slice B s.length bc, .int .i64 now, .int .i64 risk] w fun e w' => ∃ v : Value, True ∧ e = .returned (.tuple #[v, .int .i64 (msF ofM l s now risk).1]) ∧ St w Cold [.own v 35 9 (msF ofM l s now risk).2.length ((msF ofM l s now risk).2.flatMap rwC)] w' := by
  have hm := fun w' h h2 => measure_c 37 rfl ofM g37_c A c l B bc s now risk w' hl hsl h h2
  generalize msF ofM l s now risk = X at *
  generalize l.length = n at *
  generalize s.length = m at *
  refine eng_start (n := 17) (args := [.slice A n c, .slice B m bc, .int .i64 now, .int .i64 risk]) tab tab_ok fns fns_ok [.tmp 8, .tmp 9] Tryz.func17 rfl rfl rfl rfl ?_
  repeat' (first | (refine gJ ?_; first | refine js rfl rfl rfl rfl ?_ | (refine gcall rfl rfl ?_; refine gF ?_; refine j_callN (f := 36) rfl rfl rfl rfl rfl rfl rfl (fun v => .tuple #[v, .int .i64 X.1]) (fun _ => True) (fun v => [.own v 35 9 X.2.length (X.2.flatMap rwC)]) (fun w' hs => hm w' (h.st hs) (h2.st hs)) (fun _ => trivial) ?_; rintro v1 _)) | (refine gSC ?_; first | refine sc_mv rfl ?_ | refine sc_q rfl ?_ | refine sc_region ?_) | (refine gSQ ?_; first | refine sq_go rfl ?_ | refine sq_ende (by first | exact .inl rfl | exact .inr rfl) rfl rfl ⟨_, (RVs.cons (RV.tmp rfl) (RVs.cons (RV.tmp rfl) (RVs.nil))), ?_⟩) | refine j_nil ?_)
  intro w' hS
  exact ⟨_, trivial, rfl, hS.sub (by repeat (first | exact LSub.refl | refine LSub.cons (by repeat (first | exact Rem.here | apply Rem.there)) ?_ | apply LSub.skip))⟩
theorem Classes_c (A : Option Addr) (c : Nat) (l : List Sd) (B : Option Addr) (bc : Nat) (s : List Sn) (now risk : Int) (w : World) (hl : l.length ≤ 9223372036854775807) (hsl : s.length ≤ 9223372036854775807) (h : RS w 4 sdC A l) (h2 : RS w 6 snC B s) :
    Calls Tryz.prog 18 #[.slice A l.length c, .slice B s.length bc, .int .i64 now, .int .i64 risk] w fun e w' => ∃ v : Value, True ∧ e = .returned (.tuple #[v, .int .i64 (msF ofC l s now risk).1]) ∧ St w Cold [.own v 35 9 (msF ofC l s now risk).2.length ((msF ofC l s now risk).2.flatMap rwC)] w' := by
  have hm := fun w' h h2 => measure_c 38 rfl ofC g38_c A c l B bc s now risk w' hl hsl h h2
  generalize msF ofC l s now risk = X at *
  generalize l.length = n at *
  generalize s.length = m at *
  refine eng_start (n := 17) (args := [.slice A n c, .slice B m bc, .int .i64 now, .int .i64 risk]) tab tab_ok fns fns_ok [.tmp 8, .tmp 9] Tryz.func18 rfl rfl rfl rfl ?_
  repeat' (first | (refine gJ ?_; first | refine js rfl rfl rfl rfl ?_ | (refine gcall rfl rfl ?_; refine gF ?_; refine j_callN (f := 36) rfl rfl rfl rfl rfl rfl rfl (fun v => .tuple #[v, .int .i64 X.1]) (fun _ => True) (fun v => [.own v 35 9 X.2.length (X.2.flatMap rwC)]) (fun w' hs => hm w' (h.st hs) (h2.st hs)) (fun _ => trivial) ?_; rintro v1 _)) | (refine gSC ?_; first | refine sc_mv rfl ?_ | refine sc_q rfl ?_ | refine sc_region ?_) | (refine gSQ ?_; first | refine sq_go rfl ?_ | refine sq_ende (by first | exact .inl rfl | exact .inr rfl) rfl rfl ⟨_, (RVs.cons (RV.tmp rfl) (RVs.cons (RV.tmp rfl) (RVs.nil))), ?_⟩) | refine j_nil ?_)
  intro w' hS
  exact ⟨_, trivial, rfl, hS.sub (by repeat (first | exact LSub.refl | refine LSub.cons (by repeat (first | exact Rem.here | apply Rem.there)) ?_ | apply LSub.skip))⟩
def verF (r : Rw) (t : Int) : Int × Int := if 0 ≤ t ∧ t ≤ 10000 then (if t ≤ r.le then (1, 0) else if r.gr < t then (2, 0) else (3, 0)) else (0, 2)
theorem Verdict_c (r : Rw) (t : Int) (w : World) : Calls Tryz.prog 23 #[rwV r, .int .i64 t] w fun e w' => e = .returned (.tuple #[.int .u8 (verF r t).1, .int .i64 (verF r t).2]) ∧ Below w.heap.size w w' := by
  unfold verF
  refine eng_start (n := 23) (args := [rwV r, .int .i64 t]) tab tab_ok fns fns_ok [.tmp 4, .tmp 5] Tryz.func23 rfl rfl rfl rfl ?_
  repeat' (first | (refine gJ ?_; first | refine js rfl rfl rfl rfl ?_ | (refine gload rfl rfl ?_; refine j_qe rfl rfl rfl ?_; refine ⟨_, q_load_own rfl rfl rfl rfl (by (repeat constructor)) (by first | rfl | assumption), ?_⟩) | refine jfield rfl rfl rfl rfl rfl rfl rfl rfl ?_ | (refine gF ?_; (refine j_box rfl rfl rfl rfl rfl ?_; intro b))) | (refine gSC ?_; first | refine sc_mv rfl ?_ | refine sc_q rfl ?_ | refine sc_region ?_) | (refine gSQ ?_; first | refine sq_go rfl ?_ | refine sq_mv rfl ?_ | refine sq_ende (by first | exact .inl rfl | exact .inr rfl) rfl rfl ⟨_, (RVs.cons (RV.tmp rfl) (RVs.cons (RV.tmp rfl) (RVs.nil))), ?_⟩) | refine j_nil ?_ | ((first | refine j_guard rfl rfl rfl rfl rfl ?_ ?_ | refine sc_cond rfl ?_ ?_) <;> intro hc <;> (first | exact absurd hc (by decide) | ((try simp only [engHC] at hc) <;> skip))))
  all_goals
    (intro w' hS; refine ⟨?_, hS.below⟩; simp only [pack])
    first
      | rw [if_neg (by omega)]
      | rw [if_pos (by omega), if_pos (by omega)]
      | rw [if_pos (by omega), if_neg (by omega), if_pos (by omega)]
      | rw [if_pos (by omega), if_neg (by omega), if_neg (by omega)]
/-! ### The items that are made -/
def inI (x : Int) : Prop := -9223372036854775808 ≤ x ∧ x ≤ 9223372036854775807
def sentF (a d : Int) : Sn := ⟨a, 1, 2, 3, 500, d⟩
theorem sent_c (a d : Int) (w : World) : Calls Tryz.prog 33 #[.int .i64 a, .int .i64 d] w fun e w' => e = .returned (snV (sentF a d)) ∧ Below w.heap.size w w' := by
  refine eng_start (n := 8) (args := [.int .i64 a, .int .i64 d]) tab tab_ok fns fns_ok [.cell 4 45] Tryz.func33 rfl rfl rfl rfl ?_
  repeat' (first | (refine gJ ?_; first | refine js rfl rfl rfl rfl ?_ | (refine gF ?_; first | refine j_store rfl rfl rfl rfl rfl rfl rfl rfl (by (repeat constructor)) (by rfl) ?_ | (refine j_alloc rfl rfl rfl rfl rfl ?_; intro b)) | (refine j_qe rfl rfl rfl ?_; refine ⟨_, q_build_struct rfl rfl rfl rfl rfl, ?_⟩)) | (refine gSC ?_; first | refine sc_mv rfl ?_ | refine sc_q rfl ?_ | refine sc_region ?_) | (refine gSQ ?_; first | refine sq_go rfl ?_ | refine sq_ende (by first | exact .inl rfl | exact .inr rfl) rfl rfl ⟨_, (RVs.cons (by first | exact RV.cell rfl rfl rfl (by (repeat constructor)) (by rfl) | exact RV.cellA rfl rfl rfl (by (repeat constructor)) (by rfl)) (RVs.nil)), ?_⟩) | refine j_nil ?_)
  (intro w' hS; refine ⟨?_, hS.below⟩; simp only [pack])
  rfl
def std1 : List Sd := [⟨1, 2, 3, 1000⟩]
theorem standard_c (w : World) : Calls Tryz.prog 34 #[] w fun e w' => ∃ b : Nat, True ∧ e = .returned (.slice (some ⟨b, 0, none⟩) 1 1) ∧ St w Cold [.own (.slice (some ⟨b, 0, none⟩) 1 1) 43 4 1 (std1.flatMap sdC)] w' := by
  refine eng_start (n := 3) (args := []) tab tab_ok fns fns_ok [.tmp 0] Tryz.func34 rfl rfl rfl rfl ?_
  repeat' (first | (refine gJ ?_; first | refine js rfl rfl rfl rfl ?_ | (refine gF ?_; (refine j_buildSlice rfl rfl rfl rfl rfl rfl rfl rfl rfl rfl rfl rfl ?_; intro b)) | (refine j_qe rfl rfl rfl ?_; refine ⟨_, q_build_struct rfl rfl rfl rfl rfl, ?_⟩)) | (refine gSC ?_; first | refine sc_mv rfl ?_ | refine sc_q rfl ?_ | refine sc_region ?_) | (refine gSQ ?_; first | (refine sq_lit 4 (n := 1) (by (repeat constructor)) rfl (by omega) ?_; refine sq_ende (by first | exact .inl rfl | exact .inr rfl) rfl rfl ⟨_, (RVs.cons (RV.tmp rfl) (RVs.nil)), ?_⟩) | refine sq_go rfl ?_) | refine j_nil ?_)
  intro w' hS
  exact ⟨_, trivial, rfl, hS.sub (by repeat (first | exact LSub.refl | refine LSub.cons (by repeat (first | exact Rem.here | apply Rem.there)) ?_ | apply LSub.skip))⟩
structure Th where
  pr : Int
  ac : Int
  tk : Int
  dl : Bool
deriving Inhabited
abbrev thC (x : Th) : List Value := [.int .u8 x.pr, .int .u16 x.ac, .int .u16 x.tk, .bool x.dl]
def thOk (x : Th) : Prop := (0 ≤ x.pr ∧ x.pr ≤ 255) ∧ (0 ≤ x.ac ∧ x.ac ≤ 65535) ∧ (0 ≤ x.tk ∧ x.tk ≤ 65535)
def std4 : List Sd := [⟨1, 1, 2, 1000⟩, ⟨1, 2, 1, 2000⟩, ⟨2, 1, 3, 4000⟩, ⟨2, 2, 3, 0⟩]
def mk1 (i : Nat) (x : Th) : Sn :=
  let d := if x.dl = true then x.ac % 20000 + x.tk % 8000 else -1
  match std4[(x.pr % 5).toNat]? with
  | some s => ⟨1 + i, s.cl, s.fr, s.to, x.ac % 20000, d⟩
  | none => ⟨1 + i, 2, 3, 1, x.ac % 20000, d⟩
def madeN (l : List Th) (i : Nat) : List Sn := (List.range i).map fun j => mk1 j (l.getD j default)
def madeF (l : List Th) : List Sn := madeN l (min l.length 2000)
end Go.Proofs.YtmakokbpadmfbaaGreat
