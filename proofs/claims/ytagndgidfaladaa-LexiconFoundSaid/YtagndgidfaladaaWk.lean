/-
  The lexicon: walk, numbers.
-/
import Derived.Test.YtagndgidfaladaaLx
import Derived.Test.YtagndgidfaladaaEngCoreB
namespace Go.Proofs.Ytagndgidfaladaa
open Go.RowKit Eng
set_option linter.unusedVariables false
set_option linter.unusedSimpArgs false
set_option maxHeartbeats 8000000
attribute [local irreducible] SC SQ J Qt Calls Iterates LSub FSub
abbrev encI (x : Int) (S : Nat → Prop) (vs : List Value) (w : World) : Prop := vs = [.int .i64 x]
theorem Ext_nr {w w' : World} {B : Nat} {hot : Nat → Prop} {a : Addr} {vs : List Value} (h : Ext w a vs) (hn : Near B hot w w') (hb : a.block < B) (hh : ¬ hot a.block) : Ext w' a vs := by
  have hk := hn.block a.block hb hh
  refine ⟨Nat.lt_of_lt_of_le h.lt hn.size, fun j v hv => ?_⟩
  have h1 := h.cell j v hv
  simp only [World.cell?, block_add] at h1 ⊢
  rw [hk]
  exact h1
theorem Eng.St.backA {w0 w w' : World} {hot : Nat → Prop} {L L' : List HA} {S1 S2 : Nat → Prop} {p q : World → Prop} (h : St w0 hot L w) (hu : Upd L (.abs S1 p) (.abs S2 q) L') (h' : St w S1 [.abs S2 q] w') (hst : ∀ w'', Near w0.heap.size hot w' w'' → (∀ z, S2 z → w''.heap[z]? = w'.heap[z]?) → q w'') : St w0 hot L' w' := by
  obtain ⟨M, h1, _⟩ := hu.perm
  have hx := (h.perm h1).head
  have hy := h'.head
  have hfoot : ∀ z, S2 z → w0.heap.size ≤ z ∨ hot z := fun z hz => by
    rcases (hy.1 z hz).1 with h3 | h3
    · exact .inl (Nat.le_trans h.near.size h3)
    · exact (hx.1 z h3).1
  exact h.upd hu ⟨h'.near.os, h'.near.tape, h'.near.output, h'.near.size, fun k hk => by omega⟩ (fun z hz hne => h'.near.block z hz hne) ⟨fun z hz => ⟨hfoot z hz, (hy.1 z hz).2⟩, hy.2.1, hst⟩ (fun z hz => ((hy.1 z hz).1).symm)
/-- The places in memory, not written by what S has. -/
structure NDS (w : World) (S : Nat → Prop) (ar : List Nd) (W : List (List UInt8)) (x : Nd) : Prop where
  ex : Ext w ⟨x.b, 0, none⟩ (ndC W x)
  c1 : ¬ S x.b
  mp : ∃ es clk, MapG w x.m .u8 (kvs ar x.path) es clk
  c2 : ¬ S x.m
theorem NDS.near {w w' : World} {S S' : Nat → Prop} {ar : List Nd} {W : List (List UInt8)} {x : Nd} (h : NDS w S ar W x) (hn : Near w.heap.size S w w') (hS : ∀ k, S' k → S k ∨ w.heap.size ≤ k) : NDS w' S' ar W x := by
  obtain ⟨es, clk, hG⟩ := h.mp
  have h1 := h.ex.lt
  dsimp only at h1
  exact ⟨Ext_nr h.ex hn h1 h.c1, fun e => (hS _ e).elim h.c1 (fun e2 => by omega), ⟨es, clk, hG.near hn hG.lt h.c2⟩, fun e => (hS _ e).elim h.c2 (fun e2 => by have := hG.lt; omega)⟩
def PreN (W : List (List UInt8)) (p : List UInt8) (l : List Int) : Prop := ∃ r, (l ++ r).Perm (numU W p)
def YsN (W : List (List UInt8)) (p : List UInt8) (l : List Int) : Prop := l.Perm (numU W p)
/-- What a walk from a place comes to. -/
structure WkP {τ : Type} (stp : τ → Int → τ × Bool) (live : τ → Prop) (s0 : τ) (W : List (List UInt8)) (p : List UInt8) (pr : List Int) (s : τ) (bo : Bool) (ys r : List Int) (s' : τ) : Prop where
  pm : (ys ++ r).Perm (numU W p)
  go : bo = true → r = [] ∧ live s' ∧ s' = trc stp s0 (pr ++ ys)
  run : ∀ rest, runsB stp s (ys ++ rest) = if bo = true then runsB stp s' rest else s'
def WK {τ : Type} (Jn : τ → (Nat → Prop) → World → Prop) (stp : τ → Int → τ × Bool) (live : τ → Prop) (s0 : τ) (la : Nat) (W : List (List UInt8)) (ar : List Nd) (p0 : List UInt8) (x : Nd) : Prop :=
  ∀ (w : World) (S : Nat → Prop) (pr rem : List Int) (s : τ), (∀ y ∈ ar, NDS w S ar W y) → ConsumerW Try.prog w S la encI Jn stp live (fun s x => ∃ pre, PreN W p0 (pre ++ [x]) ∧ s = trc stp s0 pre) → live s → s = trc stp s0 pr → (pr ++ (numU W x.path ++ rem)).Perm (numU W p0) → Jn s S w →
    Calls Try.prog 48 #[ptrV x.b, .func (.yield la) #[] #[]] w fun e w' => ∃ i : Bool × List Int × List Int × τ × (Nat → Prop), WkP stp live s0 W x.path pr s i.1 i.2.1 i.2.2.1 i.2.2.2.1 ∧ e = .returned (.bool i.1) ∧ St w S [.abs i.2.2.2.2 (Jn i.2.2.2.1 i.2.2.2.2)] w'
def nk (W : List (List UInt8)) (p : List UInt8) (e : Int × Value) : List Int := numU W (p ++ [UInt8.ofNat e.1.toNat])
theorem nk_kvs (W : List (List UInt8)) (ar : List Nd) (p : List UInt8) : (kvs ar p).flatMap (nk W p) = (kids ar p).flatMap fun k => numU W (p ++ [k.1]) := by
  unfold kvs
  rw [List.flatMap_map]
  congr 1
  funext k
  unfold nk
  dsimp only
  rw [Int.toNat_natCast, UInt8.ofNat_toNat]
theorem perm4 {ys l1 m l2 : List Int} : (ys ++ (l1 ++ (m ++ l2))).Perm (ys ++ (m ++ (l1 ++ l2))) := by
  refine List.Perm.append_left _ ?_
  rw [← List.append_assoc, ← List.append_assoc]
  exact List.Perm.append_right _ List.perm_append_comm
set_option maxRecDepth 4000 in
set_option maxHeartbeats 32000000 in
theorem walk_s {τ : Type} (Jn : τ → (Nat → Prop) → World → Prop) (stp : τ → Int → τ × Bool) (live : τ → Prop) (s0 : τ) (la : Nat) (W : List (List UInt8)) (ar : List Nd) (p0 : List UInt8) (hA : ArW ar W) (hnd : W.Nodup) (x : Nd) (hx : x ∈ ar)
    (ih : ∀ y ∈ ar, y.path.length = x.path.length + 1 → WK Jn stp live s0 la W ar p0 y) : WK Jn stp live s0 la W ar p0 x := by
  intro w S pr rem s hN hcons hl htr hpm hJ
  obtain ⟨hE, c1, ⟨es, clk, hG⟩, c2⟩ := hN x hx
  have hsp := num_split hA.ok hnd hA.wd x.path
  rw [← nk_kvs] at hsp
  refine eng_start_lent (n := 34) (args := [ptrV x.b, .func (.yield la) #[] #[]]) tab tab_ok fns fns_ok [.tmp 4] _ _ Try.func48 rfl rfl rfl rfl (hcons.start hJ) ?_
  have hrun0 : ∀ rest, runsB stp s ([] ++ rest) = runsB stp s rest := fun _ => rfl
  generalize hM : kvs ar x.path = M at *
  generalize hno9 : wno W x.path = no at *
  by_cases hno : 0 ≤ no
  case' neg =>
    rw [if_neg (by omega)] at hsp
    have hnd2 : ndC W x = [.int .i64 no, .map (some x.m)] := by unfold ndC; rw [hno9]
    rw [hnd2] at hE
    repeat' (first | (refine gJ ?_; first | refine js rfl rfl rfl rfl ?_ | (refine gload rfl rfl ?_; refine j_qe rfl rfl rfl ?_; first | refine ⟨_, q_load_own rfl rfl rfl rfl (by (repeat constructor)) (by first | rfl | assumption), ?_⟩ | refine ⟨_, q_loadA_own rfl rfl rfl rfl (by (repeat constructor)) (by rfl), ?_⟩ | refine ⟨_, q_loadA_ext rfl rfl rfl rfl ⟨by assumption, (by first | exact id | assumption)⟩ (by rfl), ?_⟩ | refine ⟨_, q_load_ext rfl rfl rfl rfl ⟨by assumption, (by first | exact id | assumption)⟩ (by first | rfl | assumption), ?_⟩ | refine ⟨_, q_load_extb rfl rfl rfl rfl ⟨by assumption, (by first | exact id | assumption)⟩ (by rfl), ?_⟩ | refine ⟨_, q_loadA_extb rfl rfl rfl rfl ⟨by assumption, (by first | exact id | assumption)⟩ (by rfl), ?_⟩ | refine ⟨_, q_load_ext0 rfl rfl rfl rfl ⟨by assumption, (by first | exact id | assumption)⟩ (by rfl), ?_⟩) | refine jfield rfl rfl rfl rfl rfl rfl rfl rfl ?_ | (refine gF ?_; refine j_rangeG rfl rfl rfl rfl rfl rfl rfl ⟨hG, c2⟩ ?_; intro br) | (refine j_qe rfl rfl rfl ?_; first | refine ⟨_, q_field_ext rfl rfl rfl rfl rfl, ?_⟩) | refine j_guard_undef rfl rfl rfl rfl rfl ?_) | (refine gSC ?_; first | refine sc_mv rfl ?_ | refine sc_q rfl ?_ | refine sc_region ?_) | (refine gSQ ?_; first | refine sq_go rfl ?_ | refine sq_mv rfl ?_ | refine sq_ende (by first | exact .inl rfl | exact .inr rfl) rfl rfl ⟨_, (RVs.cons (RV.tmp rfl) (RVs.nil)), ?_⟩) | refine j_nil ?_ | ((first | refine j_guard rfl rfl rfl rfl rfl ?_ ?_ | refine sc_cond rfl ?_ ?_) <;> intro hc <;> (first | exact absurd hc (by decide) | ((try simp only [engHC] at hc) <;> first | (exfalso; omega) | exact absurd trivial hc | skip))))
    refine sc_loop (ι := List (Int × Value) × Option (Int × Value) × List Int × τ × (Nat → Prop)) (fun i => (∀ e ∈ i.1, e ∈ M) ∧ live i.2.2.2.1 ∧ i.2.2.2.1 = trc stp s0 (pr ++ i.2.2.1) ∧ (∀ rest, runsB stp s (i.2.2.1 ++ rest) = runsB stp i.2.2.2.1 rest) ∧ (i.2.2.1 ++ i.1.flatMap (nk W x.path)).Perm (numU W x.path)) (fun i => i.1.length) (fun i => [(1, .func (.yield la) #[] #[]), (25, .pointer (some ⟨br, 0, none⟩))]) (fun i => [haItG x.m br .u8 es clk i.1 i.2.1, .abs i.2.2.2.2 (Jn i.2.2.2.1 i.2.2.2.2)]) (M, none, [], s, S) ⟨fun e he => he, hl, by rw [List.append_nil]; exact htr, hrun0, hsp.symm⟩ (by repeat (first | exact FSub.nil | refine FSub.cons rfl ?_ | refine FSub.conse rfl (by congr 1; omega) ?_)) (by repeat (first | exact LSub.nil | refine LSub.cons (by repeat (first | exact Rem.here | apply Rem.there)) ?_)) ?_
  case' pos =>
    rw [if_pos (by omega)] at hsp
    have hnd2 : ndC W x = [.int .i64 no, .map (some x.m)] := by unfold ndC; rw [hno9]
    rw [hnd2] at hE
    have hat : ∃ pre, PreN W p0 (pre ++ [no]) ∧ s = trc stp s0 pre := ⟨pr, ⟨M.flatMap (nk W x.path) ++ rem, by
      refine List.Perm.trans ?_ hpm
      rw [List.append_assoc]
      refine List.Perm.append_left _ ?_
      rw [← List.append_assoc]
      exact List.Perm.append_right _ hsp.symm⟩, htr⟩
    cases hst : (stp s no).2
  case' pos.false =>
    repeat' (first | (refine gJ ?_; first | refine js rfl rfl rfl rfl ?_ | (refine gload rfl rfl ?_; refine j_qe rfl rfl rfl ?_; first | refine ⟨_, q_load_own rfl rfl rfl rfl (by (repeat constructor)) (by first | rfl | assumption), ?_⟩ | refine ⟨_, q_loadA_own rfl rfl rfl rfl (by (repeat constructor)) (by rfl), ?_⟩ | refine ⟨_, q_loadA_ext rfl rfl rfl rfl ⟨by assumption, (by first | exact id | assumption)⟩ (by rfl), ?_⟩ | refine ⟨_, q_load_ext rfl rfl rfl rfl ⟨by assumption, (by first | exact id | assumption)⟩ (by first | rfl | assumption), ?_⟩ | refine ⟨_, q_load_extb rfl rfl rfl rfl ⟨by assumption, (by first | exact id | assumption)⟩ (by rfl), ?_⟩ | refine ⟨_, q_loadA_extb rfl rfl rfl rfl ⟨by assumption, (by first | exact id | assumption)⟩ (by rfl), ?_⟩ | refine ⟨_, q_load_ext0 rfl rfl rfl rfl ⟨by assumption, (by first | exact id | assumption)⟩ (by rfl), ?_⟩) | refine jfield rfl rfl rfl rfl rfl rfl rfl rfl ?_ | (refine j_yieldW hcons rfl rfl rfl rfl rfl rfl (x := no) hl hat (fun w' hs => rfl) (by (repeat constructor)) (fun _ => by (repeat constructor)) ?_; intro S'; rw [hst]) | (refine j_qe rfl rfl rfl ?_; first | refine ⟨_, q_field_ext rfl rfl rfl rfl rfl, ?_⟩) | refine j_guard_undef rfl rfl rfl rfl rfl ?_) | (refine gSC ?_; first | refine sc_mv rfl ?_ | refine sc_q rfl ?_ | refine sc_region ?_) | (refine gSQ ?_; first | refine sq_go rfl ?_ | refine sq_mv rfl ?_ | refine sq_ende (by first | exact .inl rfl | exact .inr rfl) rfl rfl ⟨_, (RVs.cons (RV.tmp rfl) (RVs.nil)), ?_⟩) | refine j_nil ?_ | ((first | refine j_guard rfl rfl rfl rfl rfl ?_ ?_ | refine sc_cond rfl ?_ ?_) <;> intro hc <;> (first | exact absurd hc (by decide) | ((try simp only [engHC] at hc) <;> first | (exfalso; omega) | exact absurd trivial hc | skip))))
    all_goals first
      | (exfalso; omega)
      | skip
    intro w' hS
    exact ⟨(false, [no], M.flatMap (nk W x.path), (stp s no).1, S'), ⟨hsp.symm, fun e => (by cases e), fun rest => runsB_cons_f hst⟩, rfl, hS⟩
  case' pos.true =>
    repeat' (first | (refine gJ ?_; first | refine js rfl rfl rfl rfl ?_ | (refine gload rfl rfl ?_; refine j_qe rfl rfl rfl ?_; first | refine ⟨_, q_load_own rfl rfl rfl rfl (by (repeat constructor)) (by first | rfl | assumption), ?_⟩ | refine ⟨_, q_loadA_own rfl rfl rfl rfl (by (repeat constructor)) (by rfl), ?_⟩ | refine ⟨_, q_loadA_ext rfl rfl rfl rfl ⟨by assumption, (by first | exact id | assumption)⟩ (by rfl), ?_⟩ | refine ⟨_, q_load_ext rfl rfl rfl rfl ⟨by assumption, (by first | exact id | assumption)⟩ (by first | rfl | assumption), ?_⟩ | refine ⟨_, q_load_extb rfl rfl rfl rfl ⟨by assumption, (by first | exact id | assumption)⟩ (by rfl), ?_⟩ | refine ⟨_, q_loadA_extb rfl rfl rfl rfl ⟨by assumption, (by first | exact id | assumption)⟩ (by rfl), ?_⟩ | refine ⟨_, q_load_ext0 rfl rfl rfl rfl ⟨by assumption, (by first | exact id | assumption)⟩ (by rfl), ?_⟩) | refine jfield rfl rfl rfl rfl rfl rfl rfl rfl ?_ | (refine j_yieldW hcons rfl rfl rfl rfl rfl rfl (x := no) hl hat (fun w' hs => rfl) (by (repeat constructor)) (fun _ => by (repeat constructor)) ?_; intro S'; rw [hst]) | (refine gF ?_; refine j_rangeG rfl rfl rfl rfl rfl rfl rfl ⟨hG, c2⟩ ?_; intro br) | (refine j_qe rfl rfl rfl ?_; first | refine ⟨_, q_field_ext rfl rfl rfl rfl rfl, ?_⟩) | refine j_guard_undef rfl rfl rfl rfl rfl ?_) | (refine gSC ?_; first | refine sc_mv rfl ?_ | refine sc_q rfl ?_ | refine sc_region ?_) | (refine gSQ ?_; first | refine sq_go rfl ?_ | refine sq_mv rfl ?_ | refine sq_ende (by first | exact .inl rfl | exact .inr rfl) rfl rfl ⟨_, (RVs.cons (RV.tmp rfl) (RVs.nil)), ?_⟩) | refine j_nil ?_ | ((first | refine j_guard rfl rfl rfl rfl rfl ?_ ?_ | refine sc_cond rfl ?_ ?_) <;> intro hc <;> (first | exact absurd hc (by decide) | ((try simp only [engHC] at hc) <;> first | (exfalso; omega) | exact absurd trivial hc | skip))))
    refine sc_loop (ι := List (Int × Value) × Option (Int × Value) × List Int × τ × (Nat → Prop)) (fun i => (∀ e ∈ i.1, e ∈ M) ∧ live i.2.2.2.1 ∧ i.2.2.2.1 = trc stp s0 (pr ++ i.2.2.1) ∧ (∀ rest, runsB stp s (i.2.2.1 ++ rest) = runsB stp i.2.2.2.1 rest) ∧ (i.2.2.1 ++ i.1.flatMap (nk W x.path)).Perm (numU W x.path)) (fun i => i.1.length) (fun i => [(1, .func (.yield la) #[] #[]), (25, .pointer (some ⟨br, 0, none⟩))]) (fun i => [haItG x.m br .u8 es clk i.1 i.2.1, .abs i.2.2.2.2 (Jn i.2.2.2.1 i.2.2.2.2)]) (M, none, [no], (stp s no).1, S') ⟨fun e he => he, hcons.goes _ _ hl hst, by show _ = trc stp s0 (pr ++ [no]); rw [htr]; unfold trc; rw [List.foldl_append]; rfl, fun rest => runsB_cons_t hst, hsp.symm⟩ (by repeat (first | exact FSub.nil | refine FSub.cons rfl ?_ | refine FSub.conse rfl (by congr 1; omega) ?_)) (by repeat (first | exact LSub.nil | refine LSub.cons (by repeat (first | exact Rem.here | apply Rem.there)) ?_)) ?_
  all_goals
    rintro ⟨left, cur, ys, s1, S1⟩ ⟨hsub, hl1, htr1, hr1, hp1⟩
    dsimp only at hsub hl1 htr1 hr1 hp1 ⊢
    repeat' (first | (refine gJ ?_; first | refine js rfl rfl rfl rfl ?_ | (refine gload rfl rfl ?_; refine j_qe rfl rfl rfl ?_; first | refine ⟨_, q_load_own rfl rfl rfl rfl (by (repeat constructor)) (by first | rfl | assumption), ?_⟩ | refine ⟨_, q_loadA_own rfl rfl rfl rfl (by (repeat constructor)) (by rfl), ?_⟩ | refine ⟨_, q_loadA_ext rfl rfl rfl rfl ⟨by assumption, (by first | exact id | assumption)⟩ (by rfl), ?_⟩ | refine ⟨_, q_load_ext rfl rfl rfl rfl ⟨by assumption, (by first | exact id | assumption)⟩ (by first | rfl | assumption), ?_⟩ | refine ⟨_, q_load_extb rfl rfl rfl rfl ⟨by assumption, (by first | exact id | assumption)⟩ (by rfl), ?_⟩ | refine ⟨_, q_loadA_extb rfl rfl rfl rfl ⟨by assumption, (by first | exact id | assumption)⟩ (by rfl), ?_⟩ | refine ⟨_, q_load_ext0 rfl rfl rfl rfl ⟨by assumption, (by first | exact id | assumption)⟩ (by rfl), ?_⟩) | refine jfield rfl rfl rfl rfl rfl rfl rfl rfl ?_ | (refine j_qe rfl rfl rfl ?_; first | refine ⟨_, q_field_ext rfl rfl rfl rfl rfl, ?_⟩) | refine j_guard_undef rfl rfl rfl rfl rfl ?_) | (refine gSC ?_; first | refine sc_mv rfl ?_ | refine sc_q rfl ?_ | refine sc_region ?_) | (refine gSQ ?_; first | refine sq_go rfl ?_ | refine sq_mv rfl ?_ | refine sq_ende (by first | exact .inl rfl | exact .inr rfl) rfl rfl ⟨_, (RVs.cons (RV.tmp rfl) (RVs.nil)), ?_⟩) | refine j_nil ?_ | ((first | refine j_guard rfl rfl rfl rfl rfl ?_ ?_ | refine sc_cond rfl ?_ ?_) <;> intro hc <;> (first | exact absurd hc (by decide) | ((try simp only [engHC] at hc) <;> first | (exfalso; omega) | exact absurd trivial hc | skip))))
    refine gJ ?_
    refine j_nextG rfl rfl rfl rfl rfl ⟨hG, c2⟩ (by (repeat constructor)) (fun _ _ _ => by (repeat constructor)) ?_ ?_
    · intro hl0
      subst hl0
      repeat' (first | (refine gJ ?_; first | refine js rfl rfl rfl rfl ?_ | (refine gload rfl rfl ?_; refine j_qe rfl rfl rfl ?_; first | refine ⟨_, q_load_own rfl rfl rfl rfl (by (repeat constructor)) (by first | rfl | assumption), ?_⟩ | refine ⟨_, q_loadA_own rfl rfl rfl rfl (by (repeat constructor)) (by rfl), ?_⟩ | refine ⟨_, q_loadA_ext rfl rfl rfl rfl ⟨by assumption, (by first | exact id | assumption)⟩ (by rfl), ?_⟩ | refine ⟨_, q_load_ext rfl rfl rfl rfl ⟨by assumption, (by first | exact id | assumption)⟩ (by first | rfl | assumption), ?_⟩ | refine ⟨_, q_load_extb rfl rfl rfl rfl ⟨by assumption, (by first | exact id | assumption)⟩ (by rfl), ?_⟩ | refine ⟨_, q_loadA_extb rfl rfl rfl rfl ⟨by assumption, (by first | exact id | assumption)⟩ (by rfl), ?_⟩ | refine ⟨_, q_load_ext0 rfl rfl rfl rfl ⟨by assumption, (by first | exact id | assumption)⟩ (by rfl), ?_⟩) | refine jfield rfl rfl rfl rfl rfl rfl rfl rfl ?_ | (refine j_qe rfl rfl rfl ?_; first | refine ⟨_, q_field_ext rfl rfl rfl rfl rfl, ?_⟩) | refine j_guard_undef rfl rfl rfl rfl rfl ?_) | (refine gSC ?_; first | refine sc_mv rfl ?_ | refine sc_q rfl ?_ | refine sc_region ?_) | (refine gSQ ?_; first | refine sq_go rfl ?_ | refine sq_mv rfl ?_ | refine sq_ende (by first | exact .inl rfl | exact .inr rfl) rfl rfl ⟨_, (RVs.cons (RV.tmp rfl) (RVs.nil)), ?_⟩) | refine j_nil ?_ | ((first | refine j_guard rfl rfl rfl rfl rfl ?_ ?_ | refine sc_cond rfl ?_ ?_) <;> intro hc <;> (first | exact absurd hc (by decide) | ((try simp only [engHC] at hc) <;> first | (exfalso; omega) | exact absurd trivial hc | skip))))
      intro w' hS
      rw [List.flatMap_nil] at hp1
      exact ⟨(true, ys, [], s1, S1), ⟨hp1, fun _ => ⟨rfl, hl1, htr1⟩, fun rest => hr1 rest⟩, rfl, hS.sub (by repeat (first | exact LSub.nil | refine LSub.cons (by repeat (first | exact Rem.here | apply Rem.there)) ?_))⟩
    · intro l1 k v0 l2 hspl
      subst hspl
      have hkm : (k, v0) ∈ kvs ar x.path := by rw [hM]; exact hsub _ (by simp)
      obtain ⟨⟨c, kb⟩, hk1, hk2⟩ := List.mem_map.1 hkm
      obtain ⟨y, hy, hyp, hyb⟩ := kids_mem.1 hk1
      injection hk2 with hk3 hk4
      dsimp only at hk3 hk4
      subst hk4
      subst hyb
      have hnk : nk W x.path (k, ptrV y.b) = numU W y.path := by
        unfold nk
        rw [hyp, ← hk3]
        dsimp only
        rw [Int.toNat_natCast, UInt8.ofNat_toNat]
      rw [List.flatMap_append, List.flatMap_cons, hnk] at hp1
      have hp2 : (ys ++ (numU W y.path ++ (l1 ++ l2).flatMap (nk W x.path))).Perm (numU W x.path) := by
        rw [List.flatMap_append]
        exact perm4.symm.trans hp1
      have hp3 : ((pr ++ ys) ++ (numU W y.path ++ ((l1 ++ l2).flatMap (nk W x.path) ++ rem))).Perm (numU W p0) := by
        refine List.Perm.trans ?_ hpm
        rw [List.append_assoc]
        refine List.Perm.append_left _ ?_
        rw [← List.append_assoc, ← List.append_assoc, List.append_assoc ys]
        exact List.Perm.append_right _ hp2
      have hcall : ∀ w', St w S [haItG x.m br .u8 es clk (l1 ++ l2) (some (k, ptrV y.b)), .abs S1 (Jn s1 S1)] w' → Calls Try.prog 48 #[ptrV y.b, .func (.yield la) #[] #[]] w' fun e w'' => ∃ i : Bool × List Int × List Int × τ × (Nat → Prop), WkP stp live s0 W y.path (pr ++ ys) s1 i.1 i.2.1 i.2.2.1 i.2.2.2.1 ∧ e = .returned (.bool i.1) ∧ St w S [haItG x.m br .u8 es clk (l1 ++ l2) (some (k, ptrV y.b)), .abs i.2.2.2.2 (Jn i.2.2.2.1 i.2.2.2.2)] w'' := fun w' hs => by
        have hA := hs.at (x := .abs S1 (Jn s1 S1)) (by (repeat constructor))
        have hSS : ∀ z, S1 z → S z ∨ w.heap.size ≤ z := fun z hz => ((hA.1 z hz).1).symm
        refine (ih y hy (by rw [hyp, List.length_append]; rfl) w' S1 (pr ++ ys) ((l1 ++ l2).flatMap (nk W x.path) ++ rem) s1 (fun z hz => (hN z hz).near hs.near hSS) (hcons.later hs.near hSS) hl1 htr1 hp3 hA.2.1).mono fun e w'' ⟨i, h1, h2, h3⟩ => ⟨i, h1, h2, hs.backA (S1 := S1) (p := Jn s1 S1) (S2 := i.2.2.2.2) (q := Jn i.2.2.2.1 i.2.2.2.2) (by (repeat constructor)) h3 (fun w3 hn3 hk3 => hcons.stab _ _ _ _ h3.head.2.1 hn3 hk3 (fun z hz => ((h3.head.1 z hz).1).elim (fun g => .inr (Nat.le_trans hs.near.size g)) (hSS z)))⟩
      repeat' (first | (refine gJ ?_; first | refine js rfl rfl rfl rfl ?_ | (refine gload rfl rfl ?_; refine j_qe rfl rfl rfl ?_; first | refine ⟨_, q_load_own rfl rfl rfl rfl (by (repeat constructor)) (by first | rfl | assumption), ?_⟩ | refine ⟨_, q_loadA_own rfl rfl rfl rfl (by (repeat constructor)) (by rfl), ?_⟩ | refine ⟨_, q_loadA_ext rfl rfl rfl rfl ⟨by assumption, (by first | exact id | assumption)⟩ (by rfl), ?_⟩ | refine ⟨_, q_load_ext rfl rfl rfl rfl ⟨by assumption, (by first | exact id | assumption)⟩ (by first | rfl | assumption), ?_⟩ | refine ⟨_, q_load_extb rfl rfl rfl rfl ⟨by assumption, (by first | exact id | assumption)⟩ (by rfl), ?_⟩ | refine ⟨_, q_loadA_extb rfl rfl rfl rfl ⟨by assumption, (by first | exact id | assumption)⟩ (by rfl), ?_⟩ | refine ⟨_, q_load_ext0 rfl rfl rfl rfl ⟨by assumption, (by first | exact id | assumption)⟩ (by rfl), ?_⟩) | refine jfield rfl rfl rfl rfl rfl rfl rfl rfl ?_ | (refine j_qe rfl rfl rfl ?_; refine ⟨_, q_entryG rfl rfl ⟨hG, c2⟩ (by (repeat constructor)), ?_⟩) | (refine gcall rfl rfl ?_; refine gF ?_; refine j_call (f := 48) (ξ := Bool × List Int × List Int × τ × (Nat → Prop)) (fun i => .bool i.1) (fun i => WkP stp live s0 W y.path (pr ++ ys) s1 i.1 i.2.1 i.2.2.1 i.2.2.2.1) (fun i => [haItG x.m br .u8 es clk (l1 ++ l2) (some (k, ptrV y.b)), .abs i.2.2.2.2 (Jn i.2.2.2.1 i.2.2.2.2)]) rfl rfl rfl rfl rfl rfl rfl (fun w' hs => hcall w' hs) ?_; rintro ⟨(_ | _), ys2, r2, s2, S2⟩ hK <;> dsimp only) | (refine j_qe rfl rfl rfl ?_; first | refine ⟨_, q_field_ext rfl rfl rfl rfl rfl, ?_⟩) | refine j_guard_undef rfl rfl rfl rfl rfl ?_) | (refine gSC ?_; first | refine sc_mv rfl ?_ | refine sc_q rfl ?_ | refine sc_region ?_) | (refine gSQ ?_; first | refine sq_go rfl ?_ | refine sq_mv rfl ?_ | refine sq_ende (by first | exact .inl rfl | exact .inr rfl) rfl rfl ⟨_, (RVs.cons (RV.tmp rfl) (RVs.nil)), ?_⟩) | refine j_nil ?_ | ((first | refine j_guard rfl rfl rfl rfl rfl ?_ ?_ | refine sc_cond rfl ?_ ?_) <;> intro hc <;> (first | exact absurd hc (by decide) | ((try simp only [engHC] at hc) <;> first | (exfalso; omega) | exact absurd trivial hc | skip))))
      · intro w' hS
        have hpm2 := hK.pm
        have hrn := hK.run
        dsimp only at hpm2 hrn
        refine ⟨(false, ys ++ ys2, r2 ++ (l1 ++ l2).flatMap (nk W x.path), s2, S2), ⟨?_, fun e => (by cases e), fun rest => ?_⟩, rfl, hS.sub (by repeat (first | exact LSub.nil | refine LSub.cons (by repeat (first | exact Rem.here | apply Rem.there)) ?_))⟩
        · refine List.Perm.trans ?_ hp2
          show ((ys ++ ys2) ++ (r2 ++ _)).Perm _
          rw [List.append_assoc]
          refine List.Perm.append_left _ ?_
          rw [← List.append_assoc]
          exact List.Perm.append_right _ hpm2
        · show runsB stp s ((ys ++ ys2) ++ rest) = _
          rw [List.append_assoc, hr1, hrn]
      · obtain ⟨e2, hl2, htr2⟩ := hK.go rfl
        have hpm2 := hK.pm
        have hrn := hK.run
        dsimp only at e2 hl2 htr2 hpm2 hrn
        subst e2
        rw [List.append_nil] at hpm2
        refine sq_loop (l1 ++ l2, some (k, ptrV y.b), ys ++ ys2, s2, S2) ⟨fun e he => hsub e (by rcases List.mem_append.1 he with he | he <;> simp [he]), hl2, by show s2 = trc stp s0 (pr ++ (ys ++ ys2)); rw [htr2, List.append_assoc], fun rest => ?_, ?_⟩ (by simp) (by repeat (first | exact FSub.nil | refine FSub.cons rfl ?_ | refine FSub.conse rfl (by congr 1; omega) ?_)) (by repeat (first | exact LSub.nil | refine LSub.cons (by repeat (first | exact Rem.here | apply Rem.there)) ?_))
        · show runsB stp s ((ys ++ ys2) ++ rest) = _
          rw [List.append_assoc, hr1, hrn]
          rfl
        · refine List.Perm.trans ?_ hp2
          show ((ys ++ ys2) ++ _).Perm _
          rw [List.append_assoc]
          exact List.Perm.append_left _ (List.Perm.append_right _ hpm2)
end Go.Proofs.Ytagndgidfaladaa
