/-
  slices.Sorted of maps.Keys.
-/
import Derived.Test.YtmcmmmaffdenjaaEngCoreB
import Derived.Test.YtmcmmmaffdenjaaOr1
import Derived.Test.YtmcmmmaffdenjaaSh
import Derived.Sort.OwnSortedInts
namespace Go.Proofs.Ytmcmmmaffdenjaa
open Go.RowKit Eng
set_option linter.unusedVariables false
set_option linter.unusedSimpArgs false
set_option maxHeartbeats 8000000
attribute [local irreducible] SC SQ J Qt Calls Iterates
abbrev encI (x : Int) (S : Nat → Prop) (vs : List Value) (w : World) : Prop := vs = [.int .i64 x]
def PreK (M : List (Int × Value)) (l : List Int) : Prop := ∃ r, (l ++ r).Perm (M.map (·.1))
def YsK (M : List (Int × Value)) (l : List Int) : Prop := l.Perm (M.map (·.1))
theorem PreK.len {M : List (Int × Value)} {l : List Int} (h : PreK M l) : l.length ≤ M.length := by
  obtain ⟨r, hr⟩ := h
  have := hr.length_eq
  simp at this
  omega
theorem Ext_nr {w w' : World} {B : Nat} {hot : Nat → Prop} {a : Addr} {vs : List Value} (h : Ext w a vs) (hn : Near B hot w w') (hb : a.block < B) (hh : ¬ hot a.block) : Ext w' a vs := by
  have hk := hn.block a.block hb hh
  refine ⟨Nat.lt_of_lt_of_le h.lt hn.size, fun j v hv => ?_⟩
  have h1 := h.cell j v hv
  simp only [World.cell?, block_add] at h1 ⊢
  rw [hk]
  exact h1
theorem keysB_c (bm : Nat) (w : World) :
    Calls Try.prog 88 #[.map (some bm)] w fun e w' => ∃ bk : Nat, True ∧ e = .returned (.func (.func 97) #[] #[.pointer (some ⟨bk, 0, none⟩)]) ∧ St w Cold [.cells bk 103 [.map (some bm)]] w' := by
  refine eng_start (n := 4) (args := [.map (some bm)]) tab tab_ok fns fns_ok [.tmp 2] Try.func88 rfl rfl rfl rfl ?_
  repeat' (first | (refine gJ ?_; first | refine js rfl rfl rfl rfl ?_ | (refine gF ?_; first | (refine j_box rfl rfl rfl rfl rfl ?_; intro b)) | (refine j_qe rfl rfl rfl ?_; first | refine ⟨_, q_makeFunc rfl rfl, ?_⟩)) | (refine gSC ?_; first | refine sc_mv rfl ?_ | refine sc_q rfl ?_ | refine sc_region ?_) | (refine gSQ ?_; first | refine sq_go rfl ?_ | refine sq_mv rfl ?_ | refine sq_ende (by first | exact .inl rfl | exact .inr rfl) rfl rfl ⟨_, (RVs.cons (RV.tmp rfl) (RVs.nil)), ?_⟩) | refine j_nil ?_ | ((refine sc_cond rfl ?_ ?_) <;> intro hc <;> (first | exact absurd hc (by decide) | ((try simp only [engHC] at hc) <;> first | (exfalso; omega) | exact absurd trivial hc | skip))))
  intro w' hS
  exact ⟨_, trivial, rfl, hS.sub (by repeat (first | exact LSub.nil | refine LSub.cons (by repeat (first | exact Rem.here | apply Rem.there)) ?_))⟩
theorem keysB_it (bk bm : Nat) (M : List (Int × Value)) (es : Array MapEntry) (clk : Nat) (W : World) (S0 : Nat → Prop) (h1 : Ext W ⟨bk, 0, none⟩ [.map (some bm)]) (hG : MapG W bm .i64 M es clk) (c1 : ¬ S0 bk) (c2 : ¬ S0 bm) :
    IteratesP Try.prog 97 [.pointer (some ⟨bk, 0, none⟩)] encI (PreK M) (YsK M) W S0 := by
  intro τ Jn stp live s0 la hcons hl0 hJ0
  refine eng_start_lent (n := 14) (args := [.func (.yield la) #[] #[], .pointer (some ⟨bk, 0, none⟩)]) tab tab_ok fns fns_ok [] _ _ Try.func97 rfl rfl rfl rfl (hcons.start hJ0) ?_
  repeat' (first | (refine gJ ?_; first | refine js rfl rfl rfl rfl ?_ | (refine gload rfl rfl ?_; refine j_qe rfl rfl rfl ?_; first | refine ⟨_, q_load_own rfl rfl rfl rfl (by (repeat constructor)) (by first | rfl | assumption), ?_⟩ | refine ⟨_, q_loadA_own rfl rfl rfl rfl (by (repeat constructor)) (by rfl), ?_⟩ | refine ⟨_, q_loadA_ext rfl rfl rfl rfl ⟨by assumption, (by first | exact id | assumption)⟩ (by rfl), ?_⟩ | refine ⟨_, q_load_ext rfl rfl rfl rfl ⟨by assumption, (by first | exact id | assumption)⟩ (by first | rfl | assumption), ?_⟩ | refine ⟨_, q_load_extb rfl rfl rfl rfl ⟨by assumption, (by first | exact id | assumption)⟩ (by rfl), ?_⟩ | refine ⟨_, q_loadA_extb rfl rfl rfl rfl ⟨by assumption, (by first | exact id | assumption)⟩ (by rfl), ?_⟩ | refine ⟨_, q_load_ext0 rfl rfl rfl rfl ⟨by assumption, (by first | exact id | assumption)⟩ (by rfl), ?_⟩) | (refine gF ?_; refine j_rangeG rfl rfl rfl rfl rfl rfl rfl ⟨hG, c2⟩ ?_; intro br)) | (refine gSC ?_; first | refine sc_mv rfl ?_ | refine sc_q rfl ?_ | refine sc_region ?_) | (refine gSQ ?_; first | refine sq_go rfl ?_ | refine sq_mv rfl ?_ | refine sq_ende (by first | exact .inl rfl | exact .inr rfl) rfl rfl ⟨_, (RVs.nil), ?_⟩) | refine j_nil ?_ | ((refine sc_cond rfl ?_ ?_) <;> intro hc <;> (first | exact absurd hc (by decide) | ((try simp only [engHC] at hc) <;> first | (exfalso; omega) | exact absurd trivial hc | skip))))
  refine sc_loop (ι := List (Int × Value) × Option (Int × Value) × List Int × τ × (Nat → Prop)) (fun i => (i.2.2.1 ++ i.1.map (·.1)).Perm (M.map (·.1)) ∧ live i.2.2.2.1 ∧ i.2.2.2.1 = trc stp s0 i.2.2.1 ∧ ∀ rest, runsB stp s0 (i.2.2.1 ++ rest) = runsB stp i.2.2.2.1 rest) (fun i => i.1.length) (fun i => [(0, .func (.yield la) #[] #[]), (5, .pointer (some ⟨br, 0, none⟩))]) (fun i => [haItG bm br .i64 es clk i.1 i.2.1, .abs i.2.2.2.2 (Jn i.2.2.2.1 i.2.2.2.2)]) (M, none, [], s0, S0) ⟨List.Perm.refl _, hl0, rfl, fun _ => rfl⟩ (by repeat (first | exact FSub.nil | refine FSub.cons rfl ?_ | refine FSub.conse rfl (by congr 1; omega) ?_)) (by repeat (first | exact LSub.nil | refine LSub.cons (by repeat (first | exact Rem.here | apply Rem.there)) ?_)) ?_
  rintro ⟨left, cur, pr, s, S⟩ ⟨hperm, hlive, htr, hr⟩
  dsimp only at hperm hlive htr hr ⊢
  repeat' (first | (refine gJ ?_; first | refine js rfl rfl rfl rfl ?_ | (refine gload rfl rfl ?_; refine j_qe rfl rfl rfl ?_; first | refine ⟨_, q_load_own rfl rfl rfl rfl (by (repeat constructor)) (by first | rfl | assumption), ?_⟩ | refine ⟨_, q_loadA_own rfl rfl rfl rfl (by (repeat constructor)) (by rfl), ?_⟩ | refine ⟨_, q_loadA_ext rfl rfl rfl rfl ⟨by assumption, (by first | exact id | assumption)⟩ (by rfl), ?_⟩ | refine ⟨_, q_load_ext rfl rfl rfl rfl ⟨by assumption, (by first | exact id | assumption)⟩ (by first | rfl | assumption), ?_⟩ | refine ⟨_, q_load_extb rfl rfl rfl rfl ⟨by assumption, (by first | exact id | assumption)⟩ (by rfl), ?_⟩ | refine ⟨_, q_loadA_extb rfl rfl rfl rfl ⟨by assumption, (by first | exact id | assumption)⟩ (by rfl), ?_⟩ | refine ⟨_, q_load_ext0 rfl rfl rfl rfl ⟨by assumption, (by first | exact id | assumption)⟩ (by rfl), ?_⟩)) | (refine gSC ?_; first | refine sc_mv rfl ?_ | refine sc_q rfl ?_ | refine sc_region ?_) | (refine gSQ ?_; first | refine sq_go rfl ?_ | refine sq_mv rfl ?_ | refine sq_ende (by first | exact .inl rfl | exact .inr rfl) rfl rfl ⟨_, (RVs.nil), ?_⟩) | refine j_nil ?_ | ((refine sc_cond rfl ?_ ?_) <;> intro hc <;> (first | exact absurd hc (by decide) | ((try simp only [engHC] at hc) <;> first | (exfalso; omega) | exact absurd trivial hc | skip))))
  refine gJ ?_
  refine j_nextG rfl rfl rfl rfl rfl ⟨hG, c2⟩ (by (repeat constructor)) (fun _ _ _ => by (repeat constructor)) ?_ ?_
  · intro hl0
    subst hl0
    repeat' (first | (refine gJ ?_; first | refine js rfl rfl rfl rfl ?_ | (refine gload rfl rfl ?_; refine j_qe rfl rfl rfl ?_; first | refine ⟨_, q_load_own rfl rfl rfl rfl (by (repeat constructor)) (by first | rfl | assumption), ?_⟩ | refine ⟨_, q_loadA_own rfl rfl rfl rfl (by (repeat constructor)) (by rfl), ?_⟩ | refine ⟨_, q_loadA_ext rfl rfl rfl rfl ⟨by assumption, (by first | exact id | assumption)⟩ (by rfl), ?_⟩ | refine ⟨_, q_load_ext rfl rfl rfl rfl ⟨by assumption, (by first | exact id | assumption)⟩ (by first | rfl | assumption), ?_⟩ | refine ⟨_, q_load_extb rfl rfl rfl rfl ⟨by assumption, (by first | exact id | assumption)⟩ (by rfl), ?_⟩ | refine ⟨_, q_loadA_extb rfl rfl rfl rfl ⟨by assumption, (by first | exact id | assumption)⟩ (by rfl), ?_⟩ | refine ⟨_, q_load_ext0 rfl rfl rfl rfl ⟨by assumption, (by first | exact id | assumption)⟩ (by rfl), ?_⟩)) | (refine gSC ?_; first | refine sc_mv rfl ?_ | refine sc_q rfl ?_ | refine sc_region ?_) | (refine gSQ ?_; first | refine sq_go rfl ?_ | refine sq_mv rfl ?_ | refine sq_ende (by first | exact .inl rfl | exact .inr rfl) rfl rfl ⟨_, (RVs.nil), ?_⟩) | refine j_nil ?_ | ((refine sc_cond rfl ?_ ?_) <;> intro hc <;> (first | exact absurd hc (by decide) | ((try simp only [engHC] at hc) <;> first | (exfalso; omega) | exact absurd trivial hc | skip))))
    intro w' hS
    have h9 := hS.at (x := .abs S (Jn s S)) (by (repeat constructor))
    refine ⟨⟨_, rfl⟩, hS.near, pr, by rw [List.map_nil, List.append_nil] at hperm; exact hperm, S, ?_, fun b hb => (h9.1 b hb).1.symm⟩
    have h8 := hr []
    rw [List.append_nil] at h8
    rw [h8]
    exact h9.2.1
  · intro l1 k v0 l2 hsp
    subst hsp
    have hpk : (pr ++ k :: (l1 ++ l2).map (·.1)).Perm (M.map (·.1)) := by
      refine List.Perm.trans (List.Perm.append_left pr ?_) hperm
      simp only [List.map_append, List.map_cons]
      exact List.perm_middle.symm
    have hat : ∃ pre, PreK M (pre ++ [k]) ∧ s = trc stp s0 pre := ⟨pr, ⟨(l1 ++ l2).map (·.1), by rw [List.append_assoc]; exact hpk⟩, htr⟩
    cases hst : (stp s k).2
    · repeat' (first | (refine gJ ?_; first | refine js rfl rfl rfl rfl ?_ | (refine gload rfl rfl ?_; refine j_qe rfl rfl rfl ?_; first | refine ⟨_, q_load_own rfl rfl rfl rfl (by (repeat constructor)) (by first | rfl | assumption), ?_⟩ | refine ⟨_, q_loadA_own rfl rfl rfl rfl (by (repeat constructor)) (by rfl), ?_⟩ | refine ⟨_, q_loadA_ext rfl rfl rfl rfl ⟨by assumption, (by first | exact id | assumption)⟩ (by rfl), ?_⟩ | refine ⟨_, q_load_ext rfl rfl rfl rfl ⟨by assumption, (by first | exact id | assumption)⟩ (by first | rfl | assumption), ?_⟩ | refine ⟨_, q_load_extb rfl rfl rfl rfl ⟨by assumption, (by first | exact id | assumption)⟩ (by rfl), ?_⟩ | refine ⟨_, q_loadA_extb rfl rfl rfl rfl ⟨by assumption, (by first | exact id | assumption)⟩ (by rfl), ?_⟩ | refine ⟨_, q_load_ext0 rfl rfl rfl rfl ⟨by assumption, (by first | exact id | assumption)⟩ (by rfl), ?_⟩) | (refine j_qe rfl rfl rfl ?_; refine ⟨_, q_entryG rfl rfl ⟨hG, c2⟩ (by (repeat constructor)), ?_⟩) | (refine j_yieldW hcons rfl rfl rfl rfl rfl rfl (x := k) hlive hat (fun w' hs => rfl) (by (repeat constructor)) (fun _ => by (repeat constructor)) ?_; intro S'; rw [hst])) | (refine gSC ?_; first | refine sc_mv rfl ?_ | refine sc_q rfl ?_ | refine sc_region ?_) | (refine gSQ ?_; first | refine sq_go rfl ?_ | refine sq_mv rfl ?_ | refine sq_ende (by first | exact .inl rfl | exact .inr rfl) rfl rfl ⟨_, (RVs.nil), ?_⟩) | refine j_nil ?_ | ((refine sc_cond rfl ?_ ?_) <;> intro hc <;> (first | exact absurd hc (by decide) | ((try simp only [engHC] at hc) <;> first | (exfalso; omega) | exact absurd trivial hc | skip))))
      intro w' hS
      have h9 := hS.at (x := .abs S' (Jn (stp s k).1 S')) (by (repeat constructor))
      refine ⟨⟨_, rfl⟩, hS.near, _, hpk, S', ?_, fun b hb => (h9.1 b hb).1.symm⟩
      rw [hr, runsB_cons_f hst]
      exact h9.2.1
    · repeat' (first | (refine gJ ?_; first | refine js rfl rfl rfl rfl ?_ | (refine gload rfl rfl ?_; refine j_qe rfl rfl rfl ?_; first | refine ⟨_, q_load_own rfl rfl rfl rfl (by (repeat constructor)) (by first | rfl | assumption), ?_⟩ | refine ⟨_, q_loadA_own rfl rfl rfl rfl (by (repeat constructor)) (by rfl), ?_⟩ | refine ⟨_, q_loadA_ext rfl rfl rfl rfl ⟨by assumption, (by first | exact id | assumption)⟩ (by rfl), ?_⟩ | refine ⟨_, q_load_ext rfl rfl rfl rfl ⟨by assumption, (by first | exact id | assumption)⟩ (by first | rfl | assumption), ?_⟩ | refine ⟨_, q_load_extb rfl rfl rfl rfl ⟨by assumption, (by first | exact id | assumption)⟩ (by rfl), ?_⟩ | refine ⟨_, q_loadA_extb rfl rfl rfl rfl ⟨by assumption, (by first | exact id | assumption)⟩ (by rfl), ?_⟩ | refine ⟨_, q_load_ext0 rfl rfl rfl rfl ⟨by assumption, (by first | exact id | assumption)⟩ (by rfl), ?_⟩) | (refine j_qe rfl rfl rfl ?_; refine ⟨_, q_entryG rfl rfl ⟨hG, c2⟩ (by (repeat constructor)), ?_⟩) | (refine j_yieldW hcons rfl rfl rfl rfl rfl rfl (x := k) hlive hat (fun w' hs => rfl) (by (repeat constructor)) (fun _ => by (repeat constructor)) ?_; intro S'; rw [hst])) | (refine gSC ?_; first | refine sc_mv rfl ?_ | refine sc_q rfl ?_ | refine sc_region ?_) | (refine gSQ ?_; first | refine sq_go rfl ?_ | refine sq_mv rfl ?_ | refine sq_ende (by first | exact .inl rfl | exact .inr rfl) rfl rfl ⟨_, (RVs.nil), ?_⟩) | refine j_nil ?_ | ((refine sc_cond rfl ?_ ?_) <;> intro hc <;> (first | exact absurd hc (by decide) | ((try simp only [engHC] at hc) <;> first | (exfalso; omega) | exact absurd trivial hc | skip))))
      exact sq_loop (l1 ++ l2, some (k, v0), pr ++ [k], (stp s k).1, S') ⟨by show ((pr ++ [k]) ++ (l1 ++ l2).map (·.1)).Perm _; rw [List.append_assoc]; exact hpk, hcons.goes _ _ hlive hst, by show _ = trc stp s0 (pr ++ [k]); rw [htr]; unfold trc; rw [List.foldl_append]; rfl, fun rest => by show runsB stp s0 ((pr ++ [k]) ++ rest) = _; rw [List.append_assoc, hr]; exact runsB_cons_t hst⟩ (by simp) (by repeat (first | exact FSub.nil | refine FSub.cons rfl ?_ | refine FSub.conse rfl (by congr 1; omega) ?_)) (by repeat (first | exact LSub.nil | refine LSub.cons (by repeat (first | exact Rem.here | apply Rem.there)) ?_))
theorem keysB_hit (bk bm : Nat) (M : List (Int × Value)) (es : Array MapEntry) (clk : Nat) (w : World) (h1 : Ext w ⟨bk, 0, none⟩ [.map (some bm)]) (hG : MapG w bm .i64 M es clk) :
    ∀ w' S0, Near w.heap.size Cold w w' → (∀ b, S0 b → w.heap.size ≤ b) → IteratesP Try.prog 97 [.pointer (some ⟨bk, 0, none⟩)] encI (PreK M) (YsK M) w' S0 := fun w' S0 hn hS0 =>
  keysB_it bk bm M es clk w' S0 (Ext_nr h1 hn h1.lt (fun h => h)) (hG.near hn hG.lt (fun h => h)) (fun h => by have := hS0 _ h; have := h1.lt; dsimp only at this; omega) (fun h => by have := hS0 _ h; have := hG.lt; omega)
theorem appseq_c (gf : Nat) (lb : List Value) (Pre Ys : List Int → Prop) (w : World) (hcal : has fns gf = true) (hlen : ∀ l, Pre l → l.length ≤ 1000000) (hit : ∀ w' S0, Near w.heap.size Cold w w' → (∀ b, S0 b → w.heap.size ≤ b) → IteratesP Try.prog gf lb encI Pre Ys w' S0) :
    Calls Try.prog 98 #[.slice none 0 0, .func (.func gf) #[] lb.toArray] w fun e w' => ∃ x : Value × List Int, Ys x.2 ∧ e = .returned x.1 ∧ St w Cold [.own x.1 3 1 x.2.length (x.2.flatMap intC)] w' := by
  have hfold : ∀ (ys s : List Int), runsJ (fun (s : List Int) (x : Int) => (s ++ [x], (none : Option Code))) s ys = (s ++ ys, none) := by
    intro ys
    induction ys with
    | nil => intro s; simp [runsJ]
    | cons y ys ih => intro s; simp only [runsJ]; rw [ih]; simp
  have hfoldl : ∀ (ys s : List Int), ys.foldl (fun s y => ((fun (s : List Int) (x : Int) => (s ++ [x], (none : Option Code))) s y).1) s = s ++ ys := by
    intro ys
    induction ys with
    | nil => intro s; simp
    | cons y ys ih => intro s; rw [List.foldl_cons, ih]; simp
  refine eng_start (n := 13) (args := [.slice none 0 0, .func (.func gf) #[] lb.toArray]) tab tab_ok fns fns_ok [.tmp 4] Try.func98 rfl rfl rfl rfl ?_
  repeat' (first | (refine gJ ?_; first | refine js rfl rfl rfl rfl ?_ | (refine gload rfl rfl ?_; refine j_qe rfl rfl rfl ?_; first | refine ⟨_, q_load_own rfl rfl rfl rfl (by (repeat constructor)) (by first | rfl | assumption), ?_⟩ | refine ⟨_, q_loadA_own rfl rfl rfl rfl (by (repeat constructor)) (by rfl), ?_⟩ | refine ⟨_, q_loadA_ext rfl rfl rfl rfl ⟨by assumption, (by first | exact id | assumption)⟩ (by rfl), ?_⟩ | refine ⟨_, q_load_ext rfl rfl rfl rfl ⟨by assumption, (by first | exact id | assumption)⟩ (by first | rfl | assumption), ?_⟩ | refine ⟨_, q_load_extb rfl rfl rfl rfl ⟨by assumption, (by first | exact id | assumption)⟩ (by rfl), ?_⟩ | refine ⟨_, q_loadA_extb rfl rfl rfl rfl ⟨by assumption, (by first | exact id | assumption)⟩ (by rfl), ?_⟩ | refine ⟨_, q_load_ext0 rfl rfl rfl rfl ⟨by assumption, (by first | exact id | assumption)⟩ (by rfl), ?_⟩) | (refine gF ?_; first | refine j_store rfl rfl rfl rfl rfl rfl rfl rfl (by (repeat constructor)) (by rfl) ?_ | (refine j_box rfl rfl rfl rfl rfl ?_; intro b) | (refine j_buildSlice rfl rfl rfl rfl rfl rfl rfl rfl rfl rfl rfl rfl ?_; intro b) | (refine j_append rfl rfl rfl rfl rfl rfl rfl rfl rfl rfl rfl (by (repeat constructor)) (by (repeat constructor)) (by rfl) (by rfl) (by omega) (fun _ => by (repeat constructor)) ?_; intro v))) | (refine gSC ?_; first | refine sc_mv rfl ?_ | refine sc_q rfl ?_ | refine sc_region ?_) | (refine gSQ ?_; first | refine sq_go rfl ?_ | refine sq_mv rfl ?_ | refine sq_ende (by first | exact .inl rfl | exact .inr rfl) rfl rfl ⟨_, (RVs.cons (RV.tmp rfl) (RVs.nil)), ?_⟩) | refine j_nil ?_ | ((refine sc_cond rfl ?_ ?_) <;> intro hc <;> (first | exact absurd hc (by decide) | ((try simp only [engHC] at hc) <;> first | (exfalso; omega) | exact absurd trivial hc | skip))))
  revert b; intro b2
  refine sc_own_nil_at 3 1 ?_
  refine sc_rangeP (σ := List Int) (ξ := Value) encI Pre Ys (fun s x => (s ++ [x], none)) (fun s i => [.own i 3 1 s.length (s.flatMap intC), .cells b2 60 [i]]) [] (.slice none 0 0) rfl rfl hcal (fun x S vs w h => by rw [h]; rfl) (parsLt rfl) (by repeat (first | exact LSub.nil | refine LSub.cons (by repeat (first | exact Rem.here | apply Rem.there)) ?_)) ?_ ?_ ?_ ?_ ?_
  · intro s i S p hm; simp at hm
  · intro w' l D r hS
    exact hit w' _ hS.near (fun b hb => ((foots_old (B := 0) hS hb).1).resolve_right (fun h => h))
  · intro l D r W1 s i x vs Q henc hat hready hS1 hfin
    clear hS1
    obtain ⟨pre, hpre, hs⟩ := hat
    subst henc
    have hl := hlen _ hpre
    rw [hfoldl, List.nil_append] at hs
    subst hs
    rw [List.length_append, List.length_singleton] at hl
    refine sc_owns (e := 3) (sz := 1) (n := s.length) (xs := s.flatMap intC) (by (repeat constructor)) ?_
    rintro A1 c1 rfl hs1
    repeat' (first | (refine gJ ?_; first | refine js rfl rfl rfl rfl ?_ | (refine gload rfl rfl ?_; refine j_qe rfl rfl rfl ?_; first | refine ⟨_, q_load_own rfl rfl rfl rfl (by (repeat constructor)) (by first | rfl | assumption), ?_⟩ | refine ⟨_, q_loadA_own rfl rfl rfl rfl (by (repeat constructor)) (by rfl), ?_⟩ | refine ⟨_, q_loadA_ext rfl rfl rfl rfl ⟨by assumption, (by first | exact id | assumption)⟩ (by rfl), ?_⟩ | refine ⟨_, q_load_ext rfl rfl rfl rfl ⟨by assumption, (by first | exact id | assumption)⟩ (by first | rfl | assumption), ?_⟩ | refine ⟨_, q_load_extb rfl rfl rfl rfl ⟨by assumption, (by first | exact id | assumption)⟩ (by rfl), ?_⟩ | refine ⟨_, q_loadA_extb rfl rfl rfl rfl ⟨by assumption, (by first | exact id | assumption)⟩ (by rfl), ?_⟩ | refine ⟨_, q_load_ext0 rfl rfl rfl rfl ⟨by assumption, (by first | exact id | assumption)⟩ (by rfl), ?_⟩) | (refine gF ?_; first | refine j_store rfl rfl rfl rfl rfl rfl rfl rfl (by (repeat constructor)) (by rfl) ?_ | (refine j_box rfl rfl rfl rfl rfl ?_; intro b) | (refine j_buildSlice rfl rfl rfl rfl rfl rfl rfl rfl rfl rfl rfl rfl ?_; intro b) | (refine j_append rfl rfl rfl rfl rfl rfl rfl rfl rfl rfl rfl (by (repeat constructor)) (by (repeat constructor)) (by rfl) (by rfl) (by omega) (fun _ => by (repeat constructor)) ?_; intro v))) | (refine gSC ?_; first | refine sc_mv rfl ?_ | refine sc_q rfl ?_ | refine sc_region ?_) | (refine gSQ ?_; first | refine sq_go rfl ?_ | refine sq_mv rfl ?_ | refine sq_ende (by first | exact .inl rfl | exact .inr rfl) rfl rfl ⟨_, (RVs.cons (RV.tmp rfl) (RVs.nil)), ?_⟩) | refine j_nil ?_ | ((refine sc_cond rfl ?_ ?_) <;> intro hc <;> (first | exact absurd hc (by decide) | ((try simp only [engHC] at hc) <;> first | (exfalso; omega) | exact absurd trivial hc | skip))))
    refine sq_begin rfl hready (by (repeat constructor)) ?_
    repeat' (first | (refine gJ ?_; first | refine js rfl rfl rfl rfl ?_ | (refine gload rfl rfl ?_; refine j_qe rfl rfl rfl ?_; first | refine ⟨_, q_load_own rfl rfl rfl rfl (by (repeat constructor)) (by first | rfl | assumption), ?_⟩ | refine ⟨_, q_loadA_own rfl rfl rfl rfl (by (repeat constructor)) (by rfl), ?_⟩ | refine ⟨_, q_loadA_ext rfl rfl rfl rfl ⟨by assumption, (by first | exact id | assumption)⟩ (by rfl), ?_⟩ | refine ⟨_, q_load_ext rfl rfl rfl rfl ⟨by assumption, (by first | exact id | assumption)⟩ (by first | rfl | assumption), ?_⟩ | refine ⟨_, q_load_extb rfl rfl rfl rfl ⟨by assumption, (by first | exact id | assumption)⟩ (by rfl), ?_⟩ | refine ⟨_, q_loadA_extb rfl rfl rfl rfl ⟨by assumption, (by first | exact id | assumption)⟩ (by rfl), ?_⟩ | refine ⟨_, q_load_ext0 rfl rfl rfl rfl ⟨by assumption, (by first | exact id | assumption)⟩ (by rfl), ?_⟩) | (refine gF ?_; refine j_append rfl rfl rfl rfl rfl rfl rfl rfl rfl rfl rfl (by (repeat constructor)) (by (repeat constructor)) (by rfl) (by rfl) (by omega) (fun _ => by (repeat constructor)) ?_; intro v; refine j_owns (v := v) (by (repeat constructor)) ?_; rintro A3 c3 rfl hs3) | (refine gF ?_; first | refine j_store rfl rfl rfl rfl rfl rfl rfl rfl (by (repeat constructor)) (by rfl) ?_ | (refine j_box rfl rfl rfl rfl rfl ?_; intro b) | (refine j_buildSlice rfl rfl rfl rfl rfl rfl rfl rfl rfl rfl rfl rfl ?_; intro b) | (refine j_append rfl rfl rfl rfl rfl rfl rfl rfl rfl rfl rfl (by (repeat constructor)) (by (repeat constructor)) (by rfl) (by rfl) (by omega) (fun _ => by (repeat constructor)) ?_; intro v))) | (refine gSC ?_; first | refine sc_mv rfl ?_ | refine sc_q rfl ?_ | refine sc_region ?_) | (refine gSQ ?_; first | refine sq_go rfl ?_ | refine sq_mv rfl ?_ | refine sq_ende (by first | exact .inl rfl | exact .inr rfl) rfl rfl ⟨_, (RVs.cons (RV.tmp rfl) (RVs.nil)), ?_⟩) | refine j_nil ?_ | ((refine sc_cond rfl ?_ ?_) <;> intro hc <;> (first | exact absurd hc (by decide) | ((try simp only [engHC] at hc) <;> first | (exfalso; omega) | exact absurd trivial hc | skip))))
    refine hfin .normal none (.slice A3 (s.length + 1) c3) _ _ _ rfl rfl (by repeat (first | exact Rem.here | apply Rem.there)) ?_
    dsimp only
    rw [own_snoc]
    exact (by repeat (first | exact LSub.refl | refine LSub.cons (by repeat (first | exact Rem.here | apply Rem.there)) ?_ | apply LSub.skip))
  · intro D i ys hys hj
    rw [hfold]
    dsimp only
    rw [List.nil_append]
    refine sq_blk ?_
    refine sq_seq ?_
    refine sc_owns (e := 3) (sz := 1) (n := ys.length) (xs := ys.flatMap intC) (by (repeat constructor)) ?_
    rintro A1 c1 rfl hs1
    repeat' (first | (refine gJ ?_; first | refine js rfl rfl rfl rfl ?_ | (refine gload rfl rfl ?_; refine j_qe rfl rfl rfl ?_; first | refine ⟨_, q_load_own rfl rfl rfl rfl (by (repeat constructor)) (by first | rfl | assumption), ?_⟩ | refine ⟨_, q_loadA_own rfl rfl rfl rfl (by (repeat constructor)) (by rfl), ?_⟩ | refine ⟨_, q_loadA_ext rfl rfl rfl rfl ⟨by assumption, (by first | exact id | assumption)⟩ (by rfl), ?_⟩ | refine ⟨_, q_load_ext rfl rfl rfl rfl ⟨by assumption, (by first | exact id | assumption)⟩ (by first | rfl | assumption), ?_⟩ | refine ⟨_, q_load_extb rfl rfl rfl rfl ⟨by assumption, (by first | exact id | assumption)⟩ (by rfl), ?_⟩ | refine ⟨_, q_loadA_extb rfl rfl rfl rfl ⟨by assumption, (by first | exact id | assumption)⟩ (by rfl), ?_⟩ | refine ⟨_, q_load_ext0 rfl rfl rfl rfl ⟨by assumption, (by first | exact id | assumption)⟩ (by rfl), ?_⟩) | (refine gF ?_; first | refine j_store rfl rfl rfl rfl rfl rfl rfl rfl (by (repeat constructor)) (by rfl) ?_ | (refine j_box rfl rfl rfl rfl rfl ?_; intro b) | (refine j_buildSlice rfl rfl rfl rfl rfl rfl rfl rfl rfl rfl rfl rfl ?_; intro b) | (refine j_append rfl rfl rfl rfl rfl rfl rfl rfl rfl rfl rfl (by (repeat constructor)) (by (repeat constructor)) (by rfl) (by rfl) (by omega) (fun _ => by (repeat constructor)) ?_; intro v))) | (refine gSC ?_; first | refine sc_mv rfl ?_ | refine sc_q rfl ?_ | refine sc_region ?_) | (refine gSQ ?_; first | refine sq_go rfl ?_ | refine sq_mv rfl ?_ | refine sq_ende (by first | exact .inl rfl | exact .inr rfl) rfl rfl ⟨_, (RVs.cons (RV.tmp rfl) (RVs.nil)), ?_⟩) | refine j_nil ?_ | ((refine sc_cond rfl ?_ ?_) <;> intro hc <;> (first | exact absurd hc (by decide) | ((try simp only [engHC] at hc) <;> first | (exfalso; omega) | exact absurd trivial hc | skip))))
    refine sq_endm (.inl rfl) rfl rfl (by repeat (first | exact Rem.here | apply Rem.there)) ⟨_, (RVs.cons (RV.tmp rfl) (RVs.nil)), ?_⟩
    intro w' hS
    exact ⟨(.slice A1 ys.length c1, ys), hys, rfl, hS.sub (by repeat (first | exact LSub.refl | refine LSub.cons (by repeat (first | exact Rem.here | apply Rem.there)) ?_ | apply LSub.skip))⟩
  · intro D i ys c hys hj
    rw [hfold] at hj
    cases hj
open Go.Sort Go.RowKit in
theorem sort_c {w0 w : World} {hot : Nat → Prop} {L L' : List HA} {v : Value} {e : Nat} {zs : List Int} (hs : St w0 hot L w) (hlen : zs.length < 4611686018427387904)
    (hup : Upd L (.own v e 1 zs.length (zs.map (Value.int .i64))) (.own v e 1 zs.length ((zs.mergeSort fun x y => decide (x ≤ y)).map (Value.int .i64))) L') :
    Calls Try.prog 90 #[v] w fun e w' => ∃ u : Unit, True ∧ e = .returned (.tuple #[]) ∧ St w0 hot L' w' := by
  obtain ⟨N, hp1, hp2⟩ := hup.perm
  have hA := (hs.perm hp1).head
  rcases hA.2.2 with ⟨rfl, hn⟩ | ⟨g, cap, cur, rfl, hg, hh, hcap, hmax, hsz, htk⟩
  · have hz : zs = [] := List.length_eq_zero_iff.1 hn
    subst hz
    refine (Try.slices_Sort_int_none none 0 w).mono fun e' w' ⟨he, hw⟩ => ⟨(), trivial, he, ?_⟩
    subst hw
    exact (hs.perm hp1).perm (by simpa using hp2.symm)
  · have hH := holds_of_blockI (ss := zs) hh (by simpa using htk)
    have hlt := (Array.getElem?_eq_some_iff.1 hh).1
    refine (Try.slices_Sort_int g 0 cap zs w hH hlt hlen).mono fun e' w' ⟨he, n, os, hw⟩ => ⟨(), trivial, he, ?_⟩
    subst hw
    have hgb := grownBy_sortedI (w := w) (g := g) (n := n) (os := os) (zs.mergeSort fun x y => decide (x ≤ y)).toArray
    have hrow := ownsRow_sortedI (n := n) (os := os) (ts := zs.mergeSort fun x y => decide (x ≤ y)) (ss := zs) (by simp) hg hh hcap hmax (by simpa using hsz)
    refine hs.upd hup ⟨hgb.os, hgb.tape, hgb.output, hgb.size, fun k hk => by omega⟩ (fun b hb hne => hgb.block b hb (fun e => hne ?_)) ⟨hA.1, hrow⟩ (fun b hb => .inl hb)
    exact (congrArg id e.symm : (Value.slice (some ⟨g, 0, none⟩) zs.length cap).ownBlock = some b)
theorem map_flat (l : List Int) : l.map (Value.int .i64) = l.flatMap intC := by
  induction l with
  | nil => rfl
  | cons x l ih => simp [ih]
def sortI (l : List Int) : List Int := l.mergeSort fun x y => decide (x ≤ y)
theorem sort_len (l : List Int) : (sortI l).length = l.length := List.length_mergeSort l
theorem sortI_c {w0 w : World} {hot : Nat → Prop} {L L' : List HA} {v : Value} {e : Nat} {zs : List Int} (hs : St w0 hot L w) (hlen : zs.length < 4611686018427387904)
    (hup : Upd L (.own v e 1 zs.length (zs.map (Value.int .i64))) (.own v e 1 zs.length ((sortI zs).map (Value.int .i64))) L') :
    Calls Try.prog 90 #[v] w fun e w' => ∃ u : Unit, True ∧ e = .returned (.tuple #[]) ∧ St w0 hot L' w' := sort_c hs hlen hup
theorem sortI_perm {a b : List Int} (h : a.Perm b) : sortI a = sortI b := by
  unfold sortI
  have p1 := List.mergeSort_perm a (fun x y : Int => decide (x ≤ y))
  have p2 := List.mergeSort_perm b (fun x y : Int => decide (x ≤ y))
  have s1 := List.pairwise_mergeSort (le := fun x y : Int => decide (x ≤ y)) (fun a b c h1 h2 => by simp at *; omega) (fun a b => by simp; omega) a
  have s2 := List.pairwise_mergeSort (le := fun x y : Int => decide (x ≤ y)) (fun a b c h1 h2 => by simp at *; omega) (fun a b => by simp; omega) b
  exact (p1.trans (h.trans p2.symm)).eq_of_pairwise (fun x y _ _ h1 h2 => by simp at h1 h2; omega) s1 s2
theorem mem_sortI (l : List Int) (x : Int) : x ∈ sortI l ↔ x ∈ l := (List.mergeSort_perm l _).mem_iff
theorem sortI_sorted (l : List Int) : (sortI l).Pairwise (· ≤ ·) := by
  have s1 := List.pairwise_mergeSort (le := fun x y : Int => decide (x ≤ y)) (fun a b c h1 h2 => by simp at *; omega) (fun a b => by simp; omega) l
  exact s1.imp (fun h => by simpa using h)
attribute [local irreducible] sortI
theorem near_le {w w1 w2 : World} (h : Near w.heap.size Cold w w1) (hn : Near w1.heap.size Cold w1 w2) : Near w.heap.size Cold w w2 :=
  h.trans ⟨hn.os, hn.tape, hn.output, hn.size, fun k hk hh => hn.block k (Nat.lt_of_lt_of_le hk h.size) hh⟩
theorem collect_c (gf : Nat) (lb : List Value) (Pre Ys : List Int → Prop) (w : World) (hcal : has fns gf = true) (hlen : ∀ l, Pre l → l.length ≤ 1000000) (hit : ∀ w' S0, Near w.heap.size Cold w w' → (∀ b, S0 b → w.heap.size ≤ b) → IteratesP Try.prog gf lb encI Pre Ys w' S0) :
    Calls Try.prog 89 #[.func (.func gf) #[] lb.toArray] w fun e w' => ∃ x : Value × List Int, Ys x.2 ∧ e = .returned x.1 ∧ St w Cold [.own x.1 3 1 x.2.length (x.2.flatMap intC)] w' := by
  refine eng_start (n := 5) (args := [.func (.func gf) #[] lb.toArray]) tab tab_ok fns fns_ok [.tmp 2] Try.func89 rfl rfl rfl rfl ?_
  repeat' (first | (refine gJ ?_; first | refine js rfl rfl rfl rfl ?_ | (refine gcall rfl rfl ?_; refine gF ?_; refine j_callN (f := 98) rfl rfl rfl rfl rfl rfl rfl (fun x : Value × List Int => x.1) (fun x => Ys x.2) (fun x => [.own x.1 3 1 x.2.length (x.2.flatMap intC)]) (fun w' hs => appseq_c gf lb Pre Ys w' hcal hlen (fun w2 S0 hn hS0 => hit w2 S0 (near_le hs.near hn) (fun b hb => Nat.le_trans hs.near.size (hS0 b hb)))) (fun _ => trivial) ?_; rintro ⟨v1, ys⟩ hys)) | (refine gSC ?_; first | refine sc_mv rfl ?_ | refine sc_q rfl ?_ | refine sc_region ?_) | (refine gSQ ?_; first | refine sq_go rfl ?_ | refine sq_mv rfl ?_ | refine sq_ende (by first | exact .inl rfl | exact .inr rfl) rfl rfl ⟨_, (RVs.cons (RV.tmp rfl) (RVs.nil)), ?_⟩) | refine j_nil ?_ | ((refine sc_cond rfl ?_ ?_) <;> intro hc <;> (first | exact absurd hc (by decide) | ((try simp only [engHC] at hc) <;> first | (exfalso; omega) | exact absurd trivial hc | skip))))
  intro w' hS
  exact ⟨(v1, ys), hys, rfl, hS.sub (by repeat (first | exact LSub.refl | refine LSub.cons (by repeat (first | exact Rem.here | apply Rem.there)) ?_ | apply LSub.skip))⟩
theorem sorted_c (gf : Nat) (lb : List Value) (ks : List Int) (Pre : List Int → Prop) (w : World) (hcal : has fns gf = true) (hk : ks.length ≤ 1000000) (hlen : ∀ l, Pre l → l.length ≤ 1000000) (hit : ∀ w' S0, Near w.heap.size Cold w w' → (∀ b, S0 b → w.heap.size ≤ b) → IteratesP Try.prog gf lb encI Pre (fun l => l.Perm ks) w' S0) :
    Calls Try.prog 75 #[.func (.func gf) #[] lb.toArray] w fun e w' => ∃ v : Value, True ∧ e = .returned v ∧ St w Cold [.own v 3 1 (sortI ks).length ((sortI ks).flatMap intC)] w' := by
  refine eng_start (n := 9) (args := [.func (.func gf) #[] lb.toArray]) tab tab_ok fns fns_ok [.tmp 2] Try.func75 rfl rfl rfl rfl ?_
  repeat' (first | (refine gJ ?_; first | refine js rfl rfl rfl rfl ?_ | (refine gcall rfl rfl ?_; refine gF ?_; refine j_callN (f := 89) rfl rfl rfl rfl rfl rfl rfl (fun x : Value × List Int => x.1) (fun x => x.2.Perm ks) (fun x => [.own x.1 3 1 x.2.length (x.2.flatMap intC)]) (fun w' hs => collect_c gf lb Pre _ w' hcal hlen (fun w2 S0 hn hS0 => hit w2 S0 (near_le hs.near hn) (fun b hb => Nat.le_trans hs.near.size (hS0 b hb)))) (fun _ => trivial) ?_; rintro ⟨v1, ys⟩ hys; dsimp only at hys ⊢; rw [← map_flat ys]) | (refine gcall rfl rfl ?_; refine gF ?_; refine j_call (f := 90) (ξ := Unit) (fun _ => .tuple #[]) (fun _ => True) (fun _ => [.own v1 3 1 ys.length ((sortI ys).map (Value.int .i64))]) rfl rfl rfl rfl rfl rfl rfl (fun w' hs => sortI_c (zs := ys) (v := v1) (e := 3) hs (by have := hys.length_eq; omega) (by (repeat constructor))) ?_; intro _ _; rw [map_flat (sortI ys)])) | (refine gSC ?_; first | refine sc_mv rfl ?_ | refine sc_q rfl ?_ | refine sc_region ?_) | (refine gSQ ?_; first | refine sq_go rfl ?_ | refine sq_mv rfl ?_ | refine sq_ende (by first | exact .inl rfl | exact .inr rfl) rfl rfl ⟨_, (RVs.cons (RV.tmp rfl) (RVs.nil)), ?_⟩) | refine j_nil ?_ | ((refine sc_cond rfl ?_ ?_) <;> intro hc <;> (first | exact absurd hc (by decide) | ((try simp only [engHC] at hc) <;> first | (exfalso; omega) | exact absurd trivial hc | skip))))
  intro w' hS
  refine ⟨v1, trivial, rfl, ?_⟩
  rw [← sortI_perm hys, sort_len ys]
  exact hS.sub (by repeat (first | exact LSub.refl | refine LSub.cons (by repeat (first | exact Rem.here | apply Rem.there)) ?_ | apply LSub.skip))
end Go.Proofs.Ytmcmmmaffdenjaa
