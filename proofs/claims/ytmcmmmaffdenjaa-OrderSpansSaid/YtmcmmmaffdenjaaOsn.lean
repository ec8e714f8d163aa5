/-
  OrderSpans.
-/
import Derived.Test.YtmcmmmaffdenjaaOpl
import Derived.Test.YtmcmmmaffdenjaaEngCoreB
namespace Go.Proofs.Ytmcmmmaffdenjaa
open Go.RowKit Eng
set_option linter.unusedVariables false
set_option linter.unusedSimpArgs false
set_option maxHeartbeats 8000000
attribute [local irreducible] SC SQ J Qt Calls Iterates
theorem frc_congr {l : List Od} {d e : Int} (h : ∀ o ∈ l, cov o d = cov o e) : frc l d = frc l e := by
  unfold frc
  have key : ∀ (l : List Od) (b : Od), (∀ o ∈ l, cov o d = cov o e) → l.foldl (stF d) b = l.foldl (stF e) b := by
    intro l
    induction l with
    | nil => intro b _; rfl
    | cons x l ih =>
      intro b h
      rw [List.foldl_cons, List.foldl_cons, show stF d b x = stF e b x from by unfold stF; rw [h x List.mem_cons_self]]
      exact ih _ fun o ho => h o (List.mem_cons_of_mem _ ho)
  exact key l odZ h
/-- Between two days at which nothing changes the same order is in force. -/
theorem frc_const {l : List Od} (hok : okL l) {a z u t : Int} (h1 : a ≤ u) (h2 : u ≤ t) (h3 : t ≤ z) (hn : ∀ k ∈ stL l a z, ¬ (u < k ∧ k ≤ t)) : frc l t = frc l u := by
  refine frc_congr fun o ho => ?_
  have hko := okL_ok hok o ho
  rw [Bool.eq_iff_iff, cov_prop, cov_prop]
  have m1 : a < o.st → o.st ≤ z → o.st ∈ stL l a z := fun g1 g2 => by
    unfold stL
    refine List.mem_cons_of_mem _ (List.mem_flatMap.2 ⟨o, ho, ?_⟩)
    unfold stq
    rw [if_pos ⟨g1, g2⟩]
    simp
  have m2 : o.kd ≠ 1 → a ≤ o.en → o.en < z → o.en + 1 ∈ stL l a z := fun g0 g1 g2 => by
    unfold stL
    refine List.mem_cons_of_mem _ (List.mem_flatMap.2 ⟨o, ho, ?_⟩)
    unfold stq
    rw [if_pos (show o.kd ≠ 1 ∧ a ≤ o.en ∧ o.en < z from ⟨g0, g1, g2⟩)]
    simp
  constructor
  · rintro ⟨g1, g2⟩
    refine ⟨?_, ?_⟩
    · apply Classical.byContradiction
      intro g3
      exact hn _ (m1 (by omega) (by omega)) ⟨by omega, by omega⟩
    · rcases g2 with g2 | g2
      · exact .inl g2
      · exact .inr (by omega)
  · rintro ⟨g1, g2⟩
    refine ⟨by omega, ?_⟩
    by_cases hk : o.kd = 1
    · exact .inl hk
    · right
      rcases g2 with g2 | g2
      · exact absurd g2 hk
      · apply Classical.byContradiction
        intro g3
        exact hn _ (m2 hk (by omega) (by omega)) ⟨by omega, by omega⟩
def Tl (g : Int → Int) (z : Int) : Int → List Sp → Prop
  | _, [] => False
  | s, x :: R => x.f = s ∧ s ≤ x.l ∧ (∀ t, s ≤ t → t ≤ x.l → g t = x.o) ∧ match R with
    | [] => x.l = z
    | y :: _ => x.l < z ∧ x.o ≠ y.o ∧ Tl g z (x.l + 1) R
theorem spanGo_head (g : Int → Int) (z : Int) : ∀ (xs : List Int) (s o : Int), ∃ l R, spanGo g z s o xs = ⟨s, l, o⟩ :: R
  | [], s, o => ⟨_, _, rfl⟩
  | x :: xs, s, o => by
    simp only [spanGo]
    split
    · exact spanGo_head g z xs s o
    · exact ⟨_, _, rfl⟩
theorem spanGo_tl (g : Int → Int) (a z : Int) (K : List Int) (hc : ∀ u t, a ≤ u → u ≤ t → t ≤ z → (∀ k ∈ K, ¬ (u < k ∧ k ≤ t)) → g t = g u) :
    ∀ (xs : List Int) (s o cur : Int), a ≤ s → s ≤ cur → cur ≤ z → xs.Pairwise (· < ·) → (∀ x ∈ xs, cur ≤ x ∧ x ≤ z) → (∀ k ∈ K, cur < k → k ∈ xs) → (∀ t, s ≤ t → t ≤ cur → g t = o) → Tl g z s (spanGo g z s o xs)
  | [], s, o, cur, h1, h2, h3, _, _, h6, h7 => by
    refine ⟨rfl, by dsimp only; omega, fun t t1 t2 => ?_, rfl⟩
    by_cases ht : t ≤ cur
    · exact h7 t t1 ht
    · rw [hc cur t (by omega) (by omega) t2 (fun k hk hh => by have := h6 k hk hh.1; cases this)]
      exact h7 cur h2 (Int.le_refl _)
  | x :: xs, s, o, cur, h1, h2, h3, h4, h5, h6, h7 => by
    obtain ⟨hx1, hx2⟩ := h5 x List.mem_cons_self
    rw [List.pairwise_cons] at h4
    have hbet : ∀ t, s ≤ t → t < x → g t = o := fun t t1 t2 => by
      by_cases ht : t ≤ cur
      · exact h7 t t1 ht
      · rw [hc cur t (by omega) (by omega) (by omega) (fun k hk hh => by
          rcases List.mem_cons.1 (h6 k hk hh.1) with rfl | h9
          · omega
          · have := h4.1 k h9; omega)]
        exact h7 cur h2 (Int.le_refl _)
    have hxs : ∀ y ∈ xs, x ≤ y ∧ y ≤ z := fun y hy => ⟨by have := h4.1 y hy; omega, (h5 y (List.mem_cons_of_mem _ hy)).2⟩
    have hK : ∀ k ∈ K, x < k → k ∈ xs := fun k hk hlt => by
      rcases List.mem_cons.1 (h6 k hk (by omega)) with rfl | h9
      · omega
      · exact h9
    simp only [spanGo]
    by_cases hg : g x = o
    · rw [if_pos hg]
      refine spanGo_tl g a z K hc xs s o x h1 (by omega) hx2 h4.2 hxs hK fun t t1 t2 => ?_
      by_cases ht : t < x
      · exact hbet t t1 ht
      · rw [show t = x by omega]; exact hg
    · rw [if_neg hg]
      have hne : x ≠ cur := fun e => hg (by rw [e]; exact h7 cur h2 (Int.le_refl _))
      have ih := spanGo_tl g a z K hc xs x (g x) x (by omega) (Int.le_refl _) hx2 h4.2 hxs hK fun t t1 t2 => by rw [show t = x by omega]
      obtain ⟨l9, R9, e9⟩ := spanGo_head g z xs x (g x)
      rw [e9] at ih ⊢
      refine ⟨rfl, by dsimp only; omega, fun t t1 t2 => hbet t t1 (by dsimp only at t2; omega), ?_⟩
      dsimp only
      refine ⟨by omega, fun e => hg e.symm, ?_⟩
      rw [show x - 1 + 1 = x by omega]
      exact ih
theorem spans_tl {l : List Od} (hok : okL l) {a z : Int} (h0 : a ≤ z) : Tl (fun d => (frc l d).idn) z a (spansF l a z) := by
  have hmem : ∀ x, x ∈ sortI (keysOf (stL l a z)) ↔ x ∈ stL l a z := fun x => by rw [mem_sortI, mem_keysOf]
  have hnd : (sortI (keysOf (stL l a z))).Nodup := by
    have hp : (sortI (keysOf (stL l a z))).Perm (keysOf (stL l a z)) := by unfold sortI; exact List.mergeSort_perm _ _
    exact hp.nodup_iff.2 (nodup_keysOf _)
  have hlt : (sortI (keysOf (stL l a z))).Pairwise (· < ·) := ((sortI_sorted _).and hnd).imp (fun {x y} h => by have := h.1; have := h.2; omega)
  unfold spansF
  refine spanGo_tl _ a z (stL l a z) (fun u t g1 g2 g3 g4 => by rw [frc_const hok g1 g2 g3 g4]) _ a _ a (Int.le_refl _) (Int.le_refl _) h0 hlt (fun x hx => ?_) (fun k hk _ => (hmem k).2 hk) (fun t t1 t2 => by rw [show t = a by omega])
  rw [hmem] at hx
  unfold stL at hx
  rcases List.mem_cons.1 hx with rfl | hx
  · omega
  · obtain ⟨o, ho, hx⟩ := List.mem_flatMap.1 hx
    unfold stq at hx
    rcases List.mem_append.1 hx with hx | hx <;> split at hx <;> simp at hx <;> omega
theorem Tl.ne {g : Int → Int} {z s : Int} {S : List Sp} (h : Tl g z s S) : 0 < S.length := by
  cases S with
  | nil => exact h.elim
  | cons x R => simp
set_option maxHeartbeats 8000000 in
theorem SpansL_c (A : Option Addr) (c : Nat) (l : List Fm) (p a z : Int) (w : World) (hl : l.length ≤ 9223372036854775807) (hlc : l.length ≤ c) (hok : ∀ f ∈ l, fmOk f) (hp : 0 ≤ p ∧ p ≤ 255) (ha : 0 ≤ a ∧ a ≤ 255) (hz : 0 ≤ z ∧ z ≤ 255) (h : RS w 5 fmC A l) :
    Calls Try.prog 5 #[.slice A l.length c, .int .u8 p, .int .u8 a, .int .u8 z] w fun e w' => e = .returned (.bool true) ∧ Below w.heap.size w w' := by
  have hB : ∀ w', RS w' 5 fmC A l → Calls Try.prog 31 #[.slice A l.length c] w' _ := fun w' h' => Built_c A c l w' hl hlc hok h'
  have hbr := built_right hok
  have hrb := built_rightB hok
  generalize builtF l = O at *
  generalize hn : l.length = n at *
  have hPi : idI (1 + p % 6) := ⟨by omega, by omega⟩
  obtain ⟨f1, hf1⟩ : ∃ f1, (if z % 110 < a % 110 then z % 110 else a % 110) = f1 := ⟨_, rfl⟩
  obtain ⟨z1, hz1⟩ : ∃ z1, (if a % 110 < z % 110 then z % 110 else a % 110) = z1 := ⟨_, rfl⟩
  have hfz : 0 ≤ f1 ∧ f1 ≤ z1 ∧ z1 ≤ 109 := by
    rw [← hf1, ← hz1]
    split <;> split <;> omega
  have hO5 : O.length ≤ 500 := hbr.1
  have hsp := fun A c w (h : RS w 6 odC A O) => Spans_ok (pt := 1 + p % 6) (p := f1) (q := z1) A c w hrb hPi ⟨by omega, by omega⟩ ⟨by omega, by omega⟩ hfz.2.1 h
  have hin := fun A c w (x : Int) (hx : 0 ≤ x ∧ x ≤ 109) (h : RS w 6 odC A O) => in_ok (p := 1 + p % 6) (d := x) A c w hrb hPi ⟨by omega, by omega⟩ h
  have htl := spans_tl (okL_filter (fun o => decide (o.frm = 1 + p % 6)) hbr.2) hfz.2.1
  change Tl (fun d => (fo O (1 + p % 6) d).idn) z1 f1 (spansF (ofP O (1 + p % 6)) f1 z1) at htl
  have hS5 : (spansF (ofP O (1 + p % 6)) f1 z1).length ≤ 100000 := by
    have h0 := spanGo_len (fun x => (frc (ofP O (1 + p % 6)) x).idn) z1 (sortI (keysOf (stL (ofP O (1 + p % 6)) f1 z1))) f1 (frc (ofP O (1 + p % 6)) f1).idn
    have h1 := len_metM (stL (ofP O (1 + p % 6)) f1 z1)
    have h2 := stL_len (ofP O (1 + p % 6)) f1 z1
    have h3 := ofP_len O (1 + p % 6)
    rw [sort_len] at h0
    unfold keysOf at h0
    rw [List.length_map] at h0
    unfold spansF
    unfold keysOf
    omega
  generalize spansF (ofP O (1 + p % 6)) f1 z1 = S at *
  obtain ⟨g, hg⟩ : ∃ g : Int → Int, g = fun d => (fo O (1 + p % 6) d).idn := ⟨_, rfl⟩
  have hin2 : ∀ A c w (x : Int), 0 ≤ x ∧ x ≤ 109 → RS w 6 odC A O → Calls Try.prog 32 #[.slice A O.length c, .int .i64 (1 + p % 6), .int .i64 x] w fun e w' => e = .returned (.tuple #[.int .i64 (g x), .bool true]) ∧ Below w.heap.size w w' := fun A c w x hx h => by
    rw [hg]
    exact hin A c w x hx h
  rw [← hg] at htl
  have hSp := htl.ne
  clear hin hg hrb hbr
  refine eng_start (n := 126) (args := [.slice A n c, .int .u8 p, .int .u8 a, .int .u8 z]) tab tab_ok fns fns_ok [.tmp 8] Try.func5 rfl rfl rfl rfl ?_
  repeat' (first | (refine gJ ?_; first | refine js rfl rfl rfl rfl ?_ | (refine gload rfl rfl ?_; refine j_qe rfl rfl rfl ?_; first | refine ⟨_, q_load_own rfl rfl rfl rfl (by (repeat constructor)) (by first | rfl | assumption), ?_⟩ | refine ⟨_, q_loadA_own rfl rfl rfl rfl (by (repeat constructor)) (by rfl), ?_⟩ | refine ⟨_, q_loadA_ext rfl rfl rfl rfl ⟨by assumption, (by first | exact id | assumption)⟩ (by rfl), ?_⟩ | refine ⟨_, q_load_ext rfl rfl rfl rfl ⟨by assumption, (by first | exact id | assumption)⟩ (by first | rfl | assumption), ?_⟩ | refine ⟨_, q_load_extb rfl rfl rfl rfl ⟨by assumption, (by first | exact id | assumption)⟩ (by rfl), ?_⟩ | refine ⟨_, q_loadA_extb rfl rfl rfl rfl ⟨by assumption, (by first | exact id | assumption)⟩ (by rfl), ?_⟩ | refine ⟨_, q_load_ext0 rfl rfl rfl rfl ⟨by assumption, (by first | exact id | assumption)⟩ (by rfl), ?_⟩) | refine jfield rfl rfl rfl rfl rfl rfl rfl rfl ?_ | refine jar rfl rfl rfl rfl rfl rfl rfl (by omega) ?_ | (refine gcall rfl rfl ?_; refine gF ?_; refine j_callN (f := 31) rfl rfl rfl rfl rfl rfl rfl (fun v => v) (fun _ => True) (fun v => [.own v 30 6 O.length (O.flatMap odC)]) (fun w' hs => hB w' (h.st hs)) (fun _ => trivial) ?_; rintro v0 _; refine j_owns (v := v0) (by (repeat constructor)) ?_; rintro A0 c0 rfl hs0) | (refine j_qe rfl rfl rfl ?_; refine ⟨_, q_minr rfl rfl rfl hf1, ?_⟩) | (refine j_qe rfl rfl rfl ?_; refine ⟨_, q_maxr rfl rfl rfl hz1, ?_⟩) | (refine gcall rfl rfl ?_; refine gF ?_; refine j_callN (f := 24) rfl rfl rfl rfl rfl rfl rfl (fun v => .tuple #[v, .int .i64 0]) (fun _ => True) (fun v => [.own v 43 3 S.length (S.flatMap spC)]) (fun w' hs => hsp A0 c0 w' (rs_own (f := odC) (fun _ => rfl) hs (by (repeat constructor)) rfl rfl)) (fun _ => trivial) ?_; rintro v1 _; refine j_ownp (v := v1) (by (repeat constructor)) hSp ?_; rintro a1 c1 rfl hs1) | (refine gF ?_; first | refine j_store rfl rfl rfl rfl rfl rfl rfl rfl (by (repeat constructor)) (by rfl) ?_ | (refine j_alloc rfl rfl rfl rfl rfl ?_; intro b)) | (refine j_qe rfl rfl rfl ?_; first | refine ⟨_, q_index_nat rfl rfl rfl rfl rfl (by omega), ?_⟩ | refine ⟨_, q_index_slice rfl rfl rfl rfl rfl (by omega), ?_⟩ | refine ⟨_, q_index_arr rfl rfl rfl rfl rfl (by omega), ?_⟩ | refine ⟨_, q_index_arr_ext rfl rfl rfl rfl rfl (by omega), ?_⟩ | refine ⟨_, q_len_slice rfl rfl rfl rfl, ?_⟩ | refine ⟨_, q_field_ext rfl rfl rfl rfl rfl, ?_⟩ | refine ⟨_, q_rem rfl rfl rfl (by omega), ?_⟩ | refine ⟨_, q_remt rfl rfl rfl (by omega), ?_⟩ | refine ⟨_, q_addu8 rfl rfl rfl (by omega), ?_⟩ | refine ⟨_, q_conv rfl rfl rfl rfl rfl rfl (by first | rfl | (exact i64_wrap (by omega) (by omega)) | (exact u8_wrap (by omega) (by omega)) | (exact u64_wrap (by omega) (by omega)) | (exact u16_wrap (by omega) (by omega))), ?_⟩) | refine j_guard_undef rfl rfl rfl rfl rfl ?_) | (refine gSC ?_; first | refine sc_mv rfl ?_ | refine sc_q rfl ?_ | refine sc_region ?_) | (refine gSQ ?_; first | refine sq_go rfl ?_ | refine sq_mv rfl ?_ | refine sq_ende (by first | exact .inl rfl | exact .inr rfl) rfl rfl ⟨_, (RVs.cons (RV.tmp rfl) (RVs.nil)), ?_⟩) | refine j_nil ?_ | ((first | refine j_guard rfl rfl rfl rfl rfl ?_ ?_ | refine sc_cond rfl ?_ ?_) <;> intro hc <;> (first | exact absurd hc (by decide) | ((try simp only [engHC] at hc) <;> first | (exfalso; omega) | exact absurd trivial hc | skip))))
  refine sc_loop (ι := Nat × Int) (fun s => s.1 ≤ S.length ∧ 0 ≤ s.2 ∧ s.2 ≤ 110 ∧ ((s.1 = S.length ∧ s.2 = z1 + 1) ∨ Tl g z1 s.2 (S.drop s.1)) ∧ (∀ x y, 0 < s.1 → S[s.1 - 1]? = some x → S[s.1]? = some y → y.o ≠ x.o)) (fun s => S.length - s.1) (fun s => [(9, .slice A0 O.length c0), (10, .int .i64 (1 + p % 6)), (12, .int .i64 z1), (13, .slice (some a1) S.length c1), (15, .int .i64 s.2), (54, .slice (some a1) S.length c1), (55, .int .i64 S.length), (56, .int .i64 s.1)]) (fun _ => [.own (.slice (some a1) S.length c1) 43 3 S.length (S.flatMap spC), .own (.slice A0 O.length c0) 30 6 O.length (O.flatMap odC)]) (0, f1) ⟨Nat.zero_le _, hfz.1, by dsimp only; omega, .inr htl, fun x y h9 => absurd h9 (by omega)⟩ (by (try dsimp only); exact (by repeat (first | exact FSub.nil | refine FSub.cons rfl ?_ | refine FSub.conse rfl (by congr 1; omega) ?_))) (by repeat (first | exact LSub.refl | refine LSub.cons (by repeat (first | exact Rem.here | apply Rem.there)) ?_ | apply LSub.skip)) ?_
  rintro ⟨i, dy⟩ ⟨hi, hd0, hd1, hT, hadj⟩
  dsimp only at hi hd0 hd1 hT hadj ⊢
  by_cases hlt : i < S.length
  · obtain ⟨x, hx⟩ : ∃ x, S[i]? = some x := ⟨_, List.getElem?_eq_getElem hlt⟩
    have hT2 := hT.resolve_left (fun e => by omega)
    rw [drop_cons hx] at hT2
    obtain ⟨t1, t2, t3, t4⟩ := hT2
    have hxl : x.l ≤ z1 := by
      cases hR : S.drop (i + 1) with
      | nil => rw [hR] at t4; dsimp only at t4; omega
      | cons y R => rw [hR] at t4; have := t4.1; omega
    revert hadj
    by_cases hi0 : i = 0
    · intro hadj
      repeat' (first | (refine gJ ?_; first | refine js rfl rfl rfl rfl ?_ | (refine gload rfl rfl ?_; refine j_qe rfl rfl rfl ?_; first | refine ⟨_, q_load_own rfl rfl rfl rfl (by (repeat constructor)) (by first | rfl | assumption), ?_⟩ | refine ⟨_, q_loadA_own rfl rfl rfl rfl (by (repeat constructor)) (by rfl), ?_⟩ | refine ⟨_, q_loadA_ext rfl rfl rfl rfl ⟨by assumption, (by first | exact id | assumption)⟩ (by rfl), ?_⟩ | refine ⟨_, q_load_ext rfl rfl rfl rfl ⟨by assumption, (by first | exact id | assumption)⟩ (by first | rfl | assumption), ?_⟩ | refine ⟨_, q_load_extb rfl rfl rfl rfl ⟨by assumption, (by first | exact id | assumption)⟩ (by rfl), ?_⟩ | refine ⟨_, q_loadA_extb rfl rfl rfl rfl ⟨by assumption, (by first | exact id | assumption)⟩ (by rfl), ?_⟩ | refine ⟨_, q_load_ext0 rfl rfl rfl rfl ⟨by assumption, (by first | exact id | assumption)⟩ (by rfl), ?_⟩) | refine jfield rfl rfl rfl rfl rfl rfl rfl rfl ?_ | refine jar rfl rfl rfl rfl rfl rfl rfl (by omega) ?_ | (refine j_qe rfl rfl rfl ?_; refine ⟨_, q_index_at i rfl rfl rfl rfl rfl (by omega), ?_⟩) | (refine j_qe rfl rfl rfl ?_; refine ⟨_, q_rowA (f := spC) (i := i) rfl rfl rfl rfl (by (repeat constructor)) (fun _ => rfl) hx rfl, ?_⟩) | (refine j_qe rfl rfl rfl ?_; refine ⟨_, q_rowF (f := spC) (i := i - 1) (off := 2) rfl rfl rfl rfl (by (repeat constructor)) (fun _ => rfl) hu rfl, ?_⟩) | (refine gF ?_; first | refine j_store rfl rfl rfl rfl rfl rfl rfl rfl (by (repeat constructor)) (by rfl) ?_ | (refine j_alloc rfl rfl rfl rfl rfl ?_; intro b)) | (refine j_qe rfl rfl rfl ?_; first | refine ⟨_, q_index_nat rfl rfl rfl rfl rfl (by omega), ?_⟩ | refine ⟨_, q_index_slice rfl rfl rfl rfl rfl (by omega), ?_⟩ | refine ⟨_, q_index_arr rfl rfl rfl rfl rfl (by omega), ?_⟩ | refine ⟨_, q_index_arr_ext rfl rfl rfl rfl rfl (by omega), ?_⟩ | refine ⟨_, q_len_slice rfl rfl rfl rfl, ?_⟩ | refine ⟨_, q_field_ext rfl rfl rfl rfl rfl, ?_⟩ | refine ⟨_, q_rem rfl rfl rfl (by omega), ?_⟩ | refine ⟨_, q_remt rfl rfl rfl (by omega), ?_⟩ | refine ⟨_, q_addu8 rfl rfl rfl (by omega), ?_⟩ | refine ⟨_, q_conv rfl rfl rfl rfl rfl rfl (by first | rfl | (exact i64_wrap (by omega) (by omega)) | (exact u8_wrap (by omega) (by omega)) | (exact u64_wrap (by omega) (by omega)) | (exact u16_wrap (by omega) (by omega))), ?_⟩) | refine j_guard_undef rfl rfl rfl rfl rfl ?_) | (refine gSC ?_; first | refine sc_mv rfl ?_ | refine sc_q rfl ?_ | refine sc_region ?_ | refine sc_drawr rfl rfl mixed (by kernel_rfl) ?_) | (refine gSQ ?_; first | refine sq_go rfl ?_ | refine sq_mv rfl ?_ | refine sq_ende (by first | exact .inl rfl | exact .inr rfl) rfl rfl ⟨_, (RVs.cons (RV.tmp rfl) (RVs.nil)), ?_⟩) | refine j_nil ?_ | ((first | refine j_guard rfl rfl rfl rfl rfl ?_ ?_ | refine sc_cond rfl ?_ ?_) <;> intro hc <;> (first | exact absurd hc (by decide) | ((try simp only [engHC] at hc) <;> first | (exfalso; omega) | exact absurd trivial hc | skip))))
      refine sc_loop (ι := Int) (fun t => dy ≤ t ∧ t ≤ x.l + 1) (fun t => (x.l + 1 - t).toNat) (fun t => [(9, .slice A0 O.length c0), (10, .int .i64 (1 + p % 6)), (12, .int .i64 z1), (13, .slice (some a1) S.length c1), (15, .int .i64 t), (17, .pointer (some ⟨b, 0, none⟩)), (54, .slice (some a1) S.length c1), (55, .int .i64 S.length), (56, .int .i64 i)]) (fun _ => [.cells b 43 (spC x), .own (.slice (some a1) S.length c1) 43 3 S.length (S.flatMap spC), .own (.slice A0 O.length c0) 30 6 O.length (O.flatMap odC)]) dy ⟨Int.le_refl _, by omega⟩ (by (try dsimp only); exact (by repeat (first | exact FSub.nil | refine FSub.cons rfl ?_ | refine FSub.conse rfl (by congr 1; omega) ?_))) (by repeat (first | exact LSub.refl | refine LSub.cons (by repeat (first | exact Rem.here | apply Rem.there)) ?_ | apply LSub.skip)) ?_
      revert b
      intro b5
      rintro t ⟨u1, u2⟩
      dsimp only at u1 u2 ⊢
      by_cases htl2 : t ≤ x.l
      · have hgt := t3 t u1 htl2
        have hin3 := fun A c w h => hin2 A c w t ⟨by omega, by omega⟩ h
        rw [hgt] at hin3
        repeat' (first | (refine gJ ?_; first | refine js rfl rfl rfl rfl ?_ | (refine gload rfl rfl ?_; refine j_qe rfl rfl rfl ?_; first | refine ⟨_, q_load_own rfl rfl rfl rfl (by (repeat constructor)) (by first | rfl | assumption), ?_⟩ | refine ⟨_, q_loadA_own rfl rfl rfl rfl (by (repeat constructor)) (by rfl), ?_⟩ | refine ⟨_, q_loadA_ext rfl rfl rfl rfl ⟨by assumption, (by first | exact id | assumption)⟩ (by rfl), ?_⟩ | refine ⟨_, q_load_ext rfl rfl rfl rfl ⟨by assumption, (by first | exact id | assumption)⟩ (by first | rfl | assumption), ?_⟩ | refine ⟨_, q_load_extb rfl rfl rfl rfl ⟨by assumption, (by first | exact id | assumption)⟩ (by rfl), ?_⟩ | refine ⟨_, q_loadA_extb rfl rfl rfl rfl ⟨by assumption, (by first | exact id | assumption)⟩ (by rfl), ?_⟩ | refine ⟨_, q_load_ext0 rfl rfl rfl rfl ⟨by assumption, (by first | exact id | assumption)⟩ (by rfl), ?_⟩) | refine jfield rfl rfl rfl rfl rfl rfl rfl rfl ?_ | refine jar rfl rfl rfl rfl rfl rfl rfl (by omega) ?_ | (refine gcall rfl rfl ?_; first | (refine j_qc (f := 32) rfl rfl rfl rfl rfl rfl rfl ?_; refine ⟨_, (fun w' hs => hin3 A0 c0 w' (rs_own (f := odC) (fun _ => rfl) hs (by (repeat constructor)) rfl rfl)), ?_⟩)) | (refine gF ?_; first | refine j_store rfl rfl rfl rfl rfl rfl rfl rfl (by (repeat constructor)) (by rfl) ?_ | (refine j_alloc rfl rfl rfl rfl rfl ?_; intro b)) | (refine j_qe rfl rfl rfl ?_; first | refine ⟨_, q_index_nat rfl rfl rfl rfl rfl (by omega), ?_⟩ | refine ⟨_, q_index_slice rfl rfl rfl rfl rfl (by omega), ?_⟩ | refine ⟨_, q_index_arr rfl rfl rfl rfl rfl (by omega), ?_⟩ | refine ⟨_, q_index_arr_ext rfl rfl rfl rfl rfl (by omega), ?_⟩ | refine ⟨_, q_len_slice rfl rfl rfl rfl, ?_⟩ | refine ⟨_, q_field_ext rfl rfl rfl rfl rfl, ?_⟩ | refine ⟨_, q_rem rfl rfl rfl (by omega), ?_⟩ | refine ⟨_, q_remt rfl rfl rfl (by omega), ?_⟩ | refine ⟨_, q_addu8 rfl rfl rfl (by omega), ?_⟩ | refine ⟨_, q_conv rfl rfl rfl rfl rfl rfl (by first | rfl | (exact i64_wrap (by omega) (by omega)) | (exact u8_wrap (by omega) (by omega)) | (exact u64_wrap (by omega) (by omega)) | (exact u16_wrap (by omega) (by omega))), ?_⟩) | refine j_guard_undef rfl rfl rfl rfl rfl ?_) | (refine gSC ?_; first | refine sc_mv rfl ?_ | refine sc_q rfl ?_ | refine sc_region ?_ | refine sc_draw rfl mixed (by kernel_rfl) ?_) | (refine gSQ ?_; first | refine sq_go rfl ?_ | refine sq_mv rfl ?_ | refine sq_ende (by first | exact .inl rfl | exact .inr rfl) rfl rfl ⟨_, (RVs.cons (RV.tmp rfl) (RVs.nil)), ?_⟩) | refine j_nil ?_ | ((first | refine j_guard rfl rfl rfl rfl rfl ?_ ?_ | refine sc_cond rfl ?_ ?_) <;> intro hc <;> (first | exact absurd hc (by decide) | ((try simp only [engHC] at hc) <;> first | (exfalso; omega) | exact absurd trivial hc | skip))))
        exact sq_loop (t + 1) ⟨by omega, by omega⟩ (by show (x.l + 1 - (t + 1)).toNat < (x.l + 1 - t).toNat; omega) (by (try dsimp only); exact (by repeat (first | exact FSub.nil | refine FSub.cons rfl ?_ | refine FSub.conse rfl (by congr 1; omega) ?_))) (by repeat (first | exact LSub.refl | refine LSub.cons (by repeat (first | exact Rem.here | apply Rem.there)) ?_ | apply LSub.skip))
      · obtain rfl : t = x.l + 1 := by omega
        repeat' (first | (refine gJ ?_; first | refine js rfl rfl rfl rfl ?_ | (refine gload rfl rfl ?_; refine j_qe rfl rfl rfl ?_; first | refine ⟨_, q_load_own rfl rfl rfl rfl (by (repeat constructor)) (by first | rfl | assumption), ?_⟩ | refine ⟨_, q_loadA_own rfl rfl rfl rfl (by (repeat constructor)) (by rfl), ?_⟩ | refine ⟨_, q_loadA_ext rfl rfl rfl rfl ⟨by assumption, (by first | exact id | assumption)⟩ (by rfl), ?_⟩ | refine ⟨_, q_load_ext rfl rfl rfl rfl ⟨by assumption, (by first | exact id | assumption)⟩ (by first | rfl | assumption), ?_⟩ | refine ⟨_, q_load_extb rfl rfl rfl rfl ⟨by assumption, (by first | exact id | assumption)⟩ (by rfl), ?_⟩ | refine ⟨_, q_loadA_extb rfl rfl rfl rfl ⟨by assumption, (by first | exact id | assumption)⟩ (by rfl), ?_⟩ | refine ⟨_, q_load_ext0 rfl rfl rfl rfl ⟨by assumption, (by first | exact id | assumption)⟩ (by rfl), ?_⟩) | refine jfield rfl rfl rfl rfl rfl rfl rfl rfl ?_ | refine jar rfl rfl rfl rfl rfl rfl rfl (by omega) ?_ | (refine gF ?_; first | refine j_store rfl rfl rfl rfl rfl rfl rfl rfl (by (repeat constructor)) (by rfl) ?_ | (refine j_alloc rfl rfl rfl rfl rfl ?_; intro b)) | (refine j_qe rfl rfl rfl ?_; first | refine ⟨_, q_index_nat rfl rfl rfl rfl rfl (by omega), ?_⟩ | refine ⟨_, q_index_slice rfl rfl rfl rfl rfl (by omega), ?_⟩ | refine ⟨_, q_index_arr rfl rfl rfl rfl rfl (by omega), ?_⟩ | refine ⟨_, q_index_arr_ext rfl rfl rfl rfl rfl (by omega), ?_⟩ | refine ⟨_, q_len_slice rfl rfl rfl rfl, ?_⟩ | refine ⟨_, q_field_ext rfl rfl rfl rfl rfl, ?_⟩ | refine ⟨_, q_rem rfl rfl rfl (by omega), ?_⟩ | refine ⟨_, q_remt rfl rfl rfl (by omega), ?_⟩ | refine ⟨_, q_addu8 rfl rfl rfl (by omega), ?_⟩ | refine ⟨_, q_conv rfl rfl rfl rfl rfl rfl (by first | rfl | (exact i64_wrap (by omega) (by omega)) | (exact u8_wrap (by omega) (by omega)) | (exact u64_wrap (by omega) (by omega)) | (exact u16_wrap (by omega) (by omega))), ?_⟩) | refine j_guard_undef rfl rfl rfl rfl rfl ?_) | (refine gSC ?_; first | refine sc_mv rfl ?_ | refine sc_q rfl ?_ | refine sc_region ?_ | refine sc_draw rfl mixed (by kernel_rfl) ?_) | (refine gSQ ?_; first | refine sq_go rfl ?_ | refine sq_mv rfl ?_ | refine sq_ende (by first | exact .inl rfl | exact .inr rfl) rfl rfl ⟨_, (RVs.cons (RV.tmp rfl) (RVs.nil)), ?_⟩) | refine j_nil ?_ | ((first | refine j_guard rfl rfl rfl rfl rfl ?_ ?_ | refine sc_cond rfl ?_ ?_) <;> intro hc <;> (first | exact absurd hc (by decide) | ((try simp only [engHC] at hc) <;> first | (exfalso; omega) | exact absurd trivial hc | skip))))
        refine sq_loop (i + 1, x.l + 1) ⟨by show i + 1 ≤ S.length; omega, by show 0 ≤ x.l + 1; omega, by show x.l + 1 ≤ 110; omega, ?_, ?_⟩ (by show S.length - (i + 1) < S.length - i; omega) (by (try dsimp only); exact (by repeat (first | exact FSub.nil | refine FSub.cons rfl ?_ | refine FSub.conse rfl (by congr 1; omega) ?_))) (by repeat (first | exact LSub.refl | refine LSub.cons (by repeat (first | exact Rem.here | apply Rem.there)) ?_ | apply LSub.skip))
        · dsimp only
          cases hR : S.drop (i + 1) with
          | nil =>
            rw [hR] at t4
            left
            have := congrArg List.length hR
            rw [List.length_drop, List.length_nil] at this
            exact ⟨by omega, by rw [t4]⟩
          | cons y R =>
            rw [hR] at t4
            exact .inr t4.2.2
        · intro x9 y9 _ e1 e2
          dsimp only at e1 e2
          rw [Nat.add_sub_cancel, hx] at e1
          injection e1 with e1
          subst e1
          rw [drop_cons e2] at t4
          exact fun e => t4.2.1 e.symm
    · intro hadj
      obtain ⟨u, hu⟩ : ∃ u, S[i - 1]? = some u := ⟨_, List.getElem?_eq_getElem (by omega)⟩
      have hne := hadj u x (by omega) hu hx
      repeat' (first | (refine gJ ?_; first | refine js rfl rfl rfl rfl ?_ | (refine gload rfl rfl ?_; refine j_qe rfl rfl rfl ?_; first | refine ⟨_, q_load_own rfl rfl rfl rfl (by (repeat constructor)) (by first | rfl | assumption), ?_⟩ | refine ⟨_, q_loadA_own rfl rfl rfl rfl (by (repeat constructor)) (by rfl), ?_⟩ | refine ⟨_, q_loadA_ext rfl rfl rfl rfl ⟨by assumption, (by first | exact id | assumption)⟩ (by rfl), ?_⟩ | refine ⟨_, q_load_ext rfl rfl rfl rfl ⟨by assumption, (by first | exact id | assumption)⟩ (by first | rfl | assumption), ?_⟩ | refine ⟨_, q_load_extb rfl rfl rfl rfl ⟨by assumption, (by first | exact id | assumption)⟩ (by rfl), ?_⟩ | refine ⟨_, q_loadA_extb rfl rfl rfl rfl ⟨by assumption, (by first | exact id | assumption)⟩ (by rfl), ?_⟩ | refine ⟨_, q_load_ext0 rfl rfl rfl rfl ⟨by assumption, (by first | exact id | assumption)⟩ (by rfl), ?_⟩) | refine jfield rfl rfl rfl rfl rfl rfl rfl rfl ?_ | refine jar rfl rfl rfl rfl rfl rfl rfl (by omega) ?_ | (refine j_qe rfl rfl rfl ?_; refine ⟨_, q_index_at i rfl rfl rfl rfl rfl (by omega), ?_⟩) | (refine j_qe rfl rfl rfl ?_; refine ⟨_, q_index_at (i - 1) rfl rfl rfl rfl rfl (by omega), ?_⟩) | (refine j_qe rfl rfl rfl ?_; refine ⟨_, q_rowA (f := spC) (i := i) rfl rfl rfl rfl (by (repeat constructor)) (fun _ => rfl) hx rfl, ?_⟩) | (refine j_qe rfl rfl rfl ?_; refine ⟨_, q_rowF (f := spC) (i := i - 1) (off := 2) rfl rfl rfl rfl (by (repeat constructor)) (fun _ => rfl) hu rfl, ?_⟩) | (refine gF ?_; first | refine j_store rfl rfl rfl rfl rfl rfl rfl rfl (by (repeat constructor)) (by rfl) ?_ | (refine j_alloc rfl rfl rfl rfl rfl ?_; intro b)) | (refine j_qe rfl rfl rfl ?_; first | refine ⟨_, q_index_nat rfl rfl rfl rfl rfl (by omega), ?_⟩ | refine ⟨_, q_index_slice rfl rfl rfl rfl rfl (by omega), ?_⟩ | refine ⟨_, q_index_arr rfl rfl rfl rfl rfl (by omega), ?_⟩ | refine ⟨_, q_index_arr_ext rfl rfl rfl rfl rfl (by omega), ?_⟩ | refine ⟨_, q_len_slice rfl rfl rfl rfl, ?_⟩ | refine ⟨_, q_field_ext rfl rfl rfl rfl rfl, ?_⟩ | refine ⟨_, q_rem rfl rfl rfl (by omega), ?_⟩ | refine ⟨_, q_remt rfl rfl rfl (by omega), ?_⟩ | refine ⟨_, q_addu8 rfl rfl rfl (by omega), ?_⟩ | refine ⟨_, q_conv rfl rfl rfl rfl rfl rfl (by first | rfl | (exact i64_wrap (by omega) (by omega)) | (exact u8_wrap (by omega) (by omega)) | (exact u64_wrap (by omega) (by omega)) | (exact u16_wrap (by omega) (by omega))), ?_⟩) | refine j_guard_undef rfl rfl rfl rfl rfl ?_) | (refine gSC ?_; first | refine sc_mv rfl ?_ | refine sc_q rfl ?_ | refine sc_region ?_ | refine sc_drawr rfl rfl mixed (by kernel_rfl) ?_) | (refine gSQ ?_; first | refine sq_go rfl ?_ | refine sq_mv rfl ?_ | refine sq_ende (by first | exact .inl rfl | exact .inr rfl) rfl rfl ⟨_, (RVs.cons (RV.tmp rfl) (RVs.nil)), ?_⟩) | refine j_nil ?_ | ((first | refine j_guard rfl rfl rfl rfl rfl ?_ ?_ | refine sc_cond rfl ?_ ?_) <;> intro hc <;> (first | exact absurd hc (by decide) | ((try simp only [engHC] at hc) <;> first | (exfalso; omega) | exact absurd trivial hc | skip))))
      refine sc_loop (ι := Int) (fun t => dy ≤ t ∧ t ≤ x.l + 1) (fun t => (x.l + 1 - t).toNat) (fun t => [(9, .slice A0 O.length c0), (10, .int .i64 (1 + p % 6)), (12, .int .i64 z1), (13, .slice (some a1) S.length c1), (15, .int .i64 t), (17, .pointer (some ⟨b, 0, none⟩)), (54, .slice (some a1) S.length c1), (55, .int .i64 S.length), (56, .int .i64 i)]) (fun _ => [.cells b 43 (spC x), .own (.slice (some a1) S.length c1) 43 3 S.length (S.flatMap spC), .own (.slice A0 O.length c0) 30 6 O.length (O.flatMap odC)]) dy ⟨Int.le_refl _, by omega⟩ (by (try dsimp only); exact (by repeat (first | exact FSub.nil | refine FSub.cons rfl ?_ | refine FSub.conse rfl (by congr 1; omega) ?_))) (by repeat (first | exact LSub.refl | refine LSub.cons (by repeat (first | exact Rem.here | apply Rem.there)) ?_ | apply LSub.skip)) ?_
      revert b
      intro b5
      rintro t ⟨u1, u2⟩
      dsimp only at u1 u2 ⊢
      by_cases htl2 : t ≤ x.l
      · have hgt := t3 t u1 htl2
        have hin3 := fun A c w h => hin2 A c w t ⟨by omega, by omega⟩ h
        rw [hgt] at hin3
        repeat' (first | (refine gJ ?_; first | refine js rfl rfl rfl rfl ?_ | (refine gload rfl rfl ?_; refine j_qe rfl rfl rfl ?_; first | refine ⟨_, q_load_own rfl rfl rfl rfl (by (repeat constructor)) (by first | rfl | assumption), ?_⟩ | refine ⟨_, q_loadA_own rfl rfl rfl rfl (by (repeat constructor)) (by rfl), ?_⟩ | refine ⟨_, q_loadA_ext rfl rfl rfl rfl ⟨by assumption, (by first | exact id | assumption)⟩ (by rfl), ?_⟩ | refine ⟨_, q_load_ext rfl rfl rfl rfl ⟨by assumption, (by first | exact id | assumption)⟩ (by first | rfl | assumption), ?_⟩ | refine ⟨_, q_load_extb rfl rfl rfl rfl ⟨by assumption, (by first | exact id | assumption)⟩ (by rfl), ?_⟩ | refine ⟨_, q_loadA_extb rfl rfl rfl rfl ⟨by assumption, (by first | exact id | assumption)⟩ (by rfl), ?_⟩ | refine ⟨_, q_load_ext0 rfl rfl rfl rfl ⟨by assumption, (by first | exact id | assumption)⟩ (by rfl), ?_⟩) | refine jfield rfl rfl rfl rfl rfl rfl rfl rfl ?_ | refine jar rfl rfl rfl rfl rfl rfl rfl (by omega) ?_ | (refine gcall rfl rfl ?_; first | (refine j_qc (f := 32) rfl rfl rfl rfl rfl rfl rfl ?_; refine ⟨_, (fun w' hs => hin3 A0 c0 w' (rs_own (f := odC) (fun _ => rfl) hs (by (repeat constructor)) rfl rfl)), ?_⟩)) | (refine gF ?_; first | refine j_store rfl rfl rfl rfl rfl rfl rfl rfl (by (repeat constructor)) (by rfl) ?_ | (refine j_alloc rfl rfl rfl rfl rfl ?_; intro b)) | (refine j_qe rfl rfl rfl ?_; first | refine ⟨_, q_index_nat rfl rfl rfl rfl rfl (by omega), ?_⟩ | refine ⟨_, q_index_slice rfl rfl rfl rfl rfl (by omega), ?_⟩ | refine ⟨_, q_index_arr rfl rfl rfl rfl rfl (by omega), ?_⟩ | refine ⟨_, q_index_arr_ext rfl rfl rfl rfl rfl (by omega), ?_⟩ | refine ⟨_, q_len_slice rfl rfl rfl rfl, ?_⟩ | refine ⟨_, q_field_ext rfl rfl rfl rfl rfl, ?_⟩ | refine ⟨_, q_rem rfl rfl rfl (by omega), ?_⟩ | refine ⟨_, q_remt rfl rfl rfl (by omega), ?_⟩ | refine ⟨_, q_addu8 rfl rfl rfl (by omega), ?_⟩ | refine ⟨_, q_conv rfl rfl rfl rfl rfl rfl (by first | rfl | (exact i64_wrap (by omega) (by omega)) | (exact u8_wrap (by omega) (by omega)) | (exact u64_wrap (by omega) (by omega)) | (exact u16_wrap (by omega) (by omega))), ?_⟩) | refine j_guard_undef rfl rfl rfl rfl rfl ?_) | (refine gSC ?_; first | refine sc_mv rfl ?_ | refine sc_q rfl ?_ | refine sc_region ?_ | refine sc_draw rfl mixed (by kernel_rfl) ?_) | (refine gSQ ?_; first | refine sq_go rfl ?_ | refine sq_mv rfl ?_ | refine sq_ende (by first | exact .inl rfl | exact .inr rfl) rfl rfl ⟨_, (RVs.cons (RV.tmp rfl) (RVs.nil)), ?_⟩) | refine j_nil ?_ | ((first | refine j_guard rfl rfl rfl rfl rfl ?_ ?_ | refine sc_cond rfl ?_ ?_) <;> intro hc <;> (first | exact absurd hc (by decide) | ((try simp only [engHC] at hc) <;> first | (exfalso; omega) | exact absurd trivial hc | skip))))
        exact sq_loop (t + 1) ⟨by omega, by omega⟩ (by show (x.l + 1 - (t + 1)).toNat < (x.l + 1 - t).toNat; omega) (by (try dsimp only); exact (by repeat (first | exact FSub.nil | refine FSub.cons rfl ?_ | refine FSub.conse rfl (by congr 1; omega) ?_))) (by repeat (first | exact LSub.refl | refine LSub.cons (by repeat (first | exact Rem.here | apply Rem.there)) ?_ | apply LSub.skip))
      · obtain rfl : t = x.l + 1 := by omega
        repeat' (first | (refine gJ ?_; first | refine js rfl rfl rfl rfl ?_ | (refine gload rfl rfl ?_; refine j_qe rfl rfl rfl ?_; first | refine ⟨_, q_load_own rfl rfl rfl rfl (by (repeat constructor)) (by first | rfl | assumption), ?_⟩ | refine ⟨_, q_loadA_own rfl rfl rfl rfl (by (repeat constructor)) (by rfl), ?_⟩ | refine ⟨_, q_loadA_ext rfl rfl rfl rfl ⟨by assumption, (by first | exact id | assumption)⟩ (by rfl), ?_⟩ | refine ⟨_, q_load_ext rfl rfl rfl rfl ⟨by assumption, (by first | exact id | assumption)⟩ (by first | rfl | assumption), ?_⟩ | refine ⟨_, q_load_extb rfl rfl rfl rfl ⟨by assumption, (by first | exact id | assumption)⟩ (by rfl), ?_⟩ | refine ⟨_, q_loadA_extb rfl rfl rfl rfl ⟨by assumption, (by first | exact id | assumption)⟩ (by rfl), ?_⟩ | refine ⟨_, q_load_ext0 rfl rfl rfl rfl ⟨by assumption, (by first | exact id | assumption)⟩ (by rfl), ?_⟩) | refine jfield rfl rfl rfl rfl rfl rfl rfl rfl ?_ | refine jar rfl rfl rfl rfl rfl rfl rfl (by omega) ?_ | (refine gF ?_; first | refine j_store rfl rfl rfl rfl rfl rfl rfl rfl (by (repeat constructor)) (by rfl) ?_ | (refine j_alloc rfl rfl rfl rfl rfl ?_; intro b)) | (refine j_qe rfl rfl rfl ?_; first | refine ⟨_, q_index_nat rfl rfl rfl rfl rfl (by omega), ?_⟩ | refine ⟨_, q_index_slice rfl rfl rfl rfl rfl (by omega), ?_⟩ | refine ⟨_, q_index_arr rfl rfl rfl rfl rfl (by omega), ?_⟩ | refine ⟨_, q_index_arr_ext rfl rfl rfl rfl rfl (by omega), ?_⟩ | refine ⟨_, q_len_slice rfl rfl rfl rfl, ?_⟩ | refine ⟨_, q_field_ext rfl rfl rfl rfl rfl, ?_⟩ | refine ⟨_, q_rem rfl rfl rfl (by omega), ?_⟩ | refine ⟨_, q_remt rfl rfl rfl (by omega), ?_⟩ | refine ⟨_, q_addu8 rfl rfl rfl (by omega), ?_⟩ | refine ⟨_, q_conv rfl rfl rfl rfl rfl rfl (by first | rfl | (exact i64_wrap (by omega) (by omega)) | (exact u8_wrap (by omega) (by omega)) | (exact u64_wrap (by omega) (by omega)) | (exact u16_wrap (by omega) (by omega))), ?_⟩) | refine j_guard_undef rfl rfl rfl rfl rfl ?_) | (refine gSC ?_; first | refine sc_mv rfl ?_ | refine sc_q rfl ?_ | refine sc_region ?_ | refine sc_draw rfl mixed (by kernel_rfl) ?_) | (refine gSQ ?_; first | refine sq_go rfl ?_ | refine sq_mv rfl ?_ | refine sq_ende (by first | exact .inl rfl | exact .inr rfl) rfl rfl ⟨_, (RVs.cons (RV.tmp rfl) (RVs.nil)), ?_⟩) | refine j_nil ?_ | ((first | refine j_guard rfl rfl rfl rfl rfl ?_ ?_ | refine sc_cond rfl ?_ ?_) <;> intro hc <;> (first | exact absurd hc (by decide) | ((try simp only [engHC] at hc) <;> first | (exfalso; omega) | exact absurd trivial hc | skip))))
        refine sq_loop (i + 1, x.l + 1) ⟨by show i + 1 ≤ S.length; omega, by show 0 ≤ x.l + 1; omega, by show x.l + 1 ≤ 110; omega, ?_, ?_⟩ (by show S.length - (i + 1) < S.length - i; omega) (by (try dsimp only); exact (by repeat (first | exact FSub.nil | refine FSub.cons rfl ?_ | refine FSub.conse rfl (by congr 1; omega) ?_))) (by repeat (first | exact LSub.refl | refine LSub.cons (by repeat (first | exact Rem.here | apply Rem.there)) ?_ | apply LSub.skip))
        · dsimp only
          cases hR : S.drop (i + 1) with
          | nil =>
            rw [hR] at t4
            left
            have := congrArg List.length hR
            rw [List.length_drop, List.length_nil] at this
            exact ⟨by omega, by rw [t4]⟩
          | cons y R =>
            rw [hR] at t4
            exact .inr t4.2.2
        · intro x9 y9 _ e1 e2
          dsimp only at e1 e2
          rw [Nat.add_sub_cancel, hx] at e1
          injection e1 with e1
          subst e1
          rw [drop_cons e2] at t4
          exact fun e => t4.2.1 e.symm
  · have hT2 := hT.resolve_right (fun e => by have := e.ne; rw [List.length_drop] at this; omega)
    repeat' (first | (refine gJ ?_; first | refine js rfl rfl rfl rfl ?_ | (refine gload rfl rfl ?_; refine j_qe rfl rfl rfl ?_; first | refine ⟨_, q_load_own rfl rfl rfl rfl (by (repeat constructor)) (by first | rfl | assumption), ?_⟩ | refine ⟨_, q_loadA_own rfl rfl rfl rfl (by (repeat constructor)) (by rfl), ?_⟩ | refine ⟨_, q_loadA_ext rfl rfl rfl rfl ⟨by assumption, (by first | exact id | assumption)⟩ (by rfl), ?_⟩ | refine ⟨_, q_load_ext rfl rfl rfl rfl ⟨by assumption, (by first | exact id | assumption)⟩ (by first | rfl | assumption), ?_⟩ | refine ⟨_, q_load_extb rfl rfl rfl rfl ⟨by assumption, (by first | exact id | assumption)⟩ (by rfl), ?_⟩ | refine ⟨_, q_loadA_extb rfl rfl rfl rfl ⟨by assumption, (by first | exact id | assumption)⟩ (by rfl), ?_⟩ | refine ⟨_, q_load_ext0 rfl rfl rfl rfl ⟨by assumption, (by first | exact id | assumption)⟩ (by rfl), ?_⟩) | refine jfield rfl rfl rfl rfl rfl rfl rfl rfl ?_ | refine jar rfl rfl rfl rfl rfl rfl rfl (by omega) ?_ | (refine gcall rfl rfl ?_; first | (refine j_qc (f := 19) rfl rfl rfl rfl rfl rfl rfl ?_; refine ⟨_, (fun w' _ => awake5_c w'), ?_⟩)) | (refine gF ?_; first | refine j_store rfl rfl rfl rfl rfl rfl rfl rfl (by (repeat constructor)) (by rfl) ?_ | (refine j_alloc rfl rfl rfl rfl rfl ?_; intro b)) | (refine j_qe rfl rfl rfl ?_; first | refine ⟨_, q_index_nat rfl rfl rfl rfl rfl (by omega), ?_⟩ | refine ⟨_, q_index_slice rfl rfl rfl rfl rfl (by omega), ?_⟩ | refine ⟨_, q_index_arr rfl rfl rfl rfl rfl (by omega), ?_⟩ | refine ⟨_, q_index_arr_ext rfl rfl rfl rfl rfl (by omega), ?_⟩ | refine ⟨_, q_len_slice rfl rfl rfl rfl, ?_⟩ | refine ⟨_, q_field_ext rfl rfl rfl rfl rfl, ?_⟩ | refine ⟨_, q_rem rfl rfl rfl (by omega), ?_⟩ | refine ⟨_, q_remt rfl rfl rfl (by omega), ?_⟩ | refine ⟨_, q_addu8 rfl rfl rfl (by omega), ?_⟩ | refine ⟨_, q_conv rfl rfl rfl rfl rfl rfl (by first | rfl | (exact i64_wrap (by omega) (by omega)) | (exact u8_wrap (by omega) (by omega)) | (exact u64_wrap (by omega) (by omega)) | (exact u16_wrap (by omega) (by omega))), ?_⟩) | refine j_guard_undef rfl rfl rfl rfl rfl ?_) | (refine gSC ?_; first | refine sc_mv rfl ?_ | refine sc_q rfl ?_ | refine sc_region ?_ | refine sc_draw rfl mixed (by kernel_rfl) ?_) | (refine gSQ ?_; first | refine sq_go rfl ?_ | refine sq_mv rfl ?_ | refine sq_ende (by first | exact .inl rfl | exact .inr rfl) rfl rfl ⟨_, (RVs.cons (RV.tmp rfl) (RVs.nil)), ?_⟩) | refine j_nil ?_ | ((first | refine j_guard rfl rfl rfl rfl rfl ?_ ?_ | refine sc_cond rfl ?_ ?_) <;> intro hc <;> (first | exact absurd hc (by decide) | ((try simp only [engHC] at hc) <;> first | (exfalso; omega) | exact absurd trivial hc | skip))))
    (intro w' hS; refine ⟨?_, hS.below⟩; simp only [pack])
end Go.Proofs.Ytmcmmmaffdenjaa
