/-
  In one text: Srt, Nu.
-/
import Derived.Test.YtagndgidfaladaaWk
import Derived.Test.YtagndgidfaladaaEd3
import Derived.Test.YtagndgidfaladaaEngCoreB
import Derived.Test.YtagndgidfaladaaSh
import Derived.Sort.OwnSortedInts
/-
  slices.Sorted of an iterator over numbers.
-/
namespace Go.Proofs.Ytagndgidfaladaa
open Go.RowKit Eng
set_option linter.unusedVariables false
set_option linter.unusedSimpArgs false
set_option maxHeartbeats 8000000
attribute [local irreducible] SC SQ J Qt Calls Iterates LSub FSub
theorem own_snoc {α : Type} (f : α → List Value) (v : Value) (e sz : Nat) (R : List α) (x : α) : HA.own v e sz (R ++ [x]).length ((R ++ [x]).flatMap f) = HA.own v e sz (R.length + 1) (R.flatMap f ++ f x) := by
  simp
theorem appseq_c (gf : Nat) (lb : List Value) (Pre Ys : List Int → Prop) (w : World) (hcal : has fns gf = true) (hlen : ∀ l, Pre l → l.length ≤ 1000000) (hit : ∀ w' S0, Near w.heap.size Cold w w' → (∀ b, S0 b → w.heap.size ≤ b) → IteratesP Try.prog gf lb encI Pre Ys w' S0) :
    Calls Try.prog 53 #[.slice none 0 0, .func (.func gf) #[] lb.toArray] w fun e w' => ∃ x : Value × List Int, Ys x.2 ∧ e = .returned x.1 ∧ St w Cold [.own x.1 3 1 x.2.length (x.2.flatMap intC)] w' := by
  have hfold : ∀ (ys s : List Int), runsJ (fun (s : List Int) (x : Int) => (s ++ [x], (none : Option Code))) s ys = (s ++ ys, none) := by
    intro ys
    induction ys with
    | nil => intro s; simp [runsJ]
    | cons y ys ih => intro s; simp only [runsJ]; rw [ih]; simp
  have hfoldl : ∀ (ys s : List Int), ys.foldl (fun s y => ((fun (s : List Int) (x : Int) => (s ++ [x], (none : Option Code))) s y).1) s = s ++ ys := by
    intro ys
    induction ys with
    | nil => intro s; simp
    | cons y ys ih => intro s; rw [List.foldl_cons, ih]; simp
  refine eng_start (n := 13) (args := [.slice none 0 0, .func (.func gf) #[] lb.toArray]) tab tab_ok fns fns_ok [.tmp 4] Try.func53 rfl rfl rfl rfl ?_
  repeat' (first | (refine gJ ?_; first | refine js rfl rfl rfl rfl ?_ | (refine gload rfl rfl ?_; refine j_qe rfl rfl rfl ?_; first | refine ⟨_, q_load_own rfl rfl rfl rfl (by (repeat constructor)) (by first | rfl | assumption), ?_⟩ | refine ⟨_, q_loadA_own rfl rfl rfl rfl (by (repeat constructor)) (by rfl), ?_⟩ | refine ⟨_, q_loadA_ext rfl rfl rfl rfl ⟨by assumption, (by first | exact id | assumption)⟩ (by rfl), ?_⟩ | refine ⟨_, q_load_ext rfl rfl rfl rfl ⟨by assumption, (by first | exact id | assumption)⟩ (by first | rfl | assumption), ?_⟩ | refine ⟨_, q_load_extb rfl rfl rfl rfl ⟨by assumption, (by first | exact id | assumption)⟩ (by rfl), ?_⟩ | refine ⟨_, q_loadA_extb rfl rfl rfl rfl ⟨by assumption, (by first | exact id | assumption)⟩ (by rfl), ?_⟩ | refine ⟨_, q_load_ext0 rfl rfl rfl rfl ⟨by assumption, (by first | exact id | assumption)⟩ (by rfl), ?_⟩) | (refine gF ?_; first | refine j_store rfl rfl rfl rfl rfl rfl rfl rfl (by (repeat constructor)) (by rfl) ?_ | (refine j_box rfl rfl rfl rfl rfl ?_; intro b) | (refine j_buildSlice rfl rfl rfl rfl rfl rfl rfl rfl rfl rfl rfl rfl ?_; intro b) | (refine j_append rfl rfl rfl rfl rfl rfl rfl rfl rfl rfl rfl (by (repeat constructor)) (by (repeat constructor)) (by rfl) (by rfl) (by omega) (fun _ => by (repeat constructor)) ?_; intro v))) | (refine gSC ?_; first | refine sc_mv rfl ?_ | refine sc_q rfl ?_ | refine sc_region ?_) | (refine gSQ ?_; first | refine sq_go rfl ?_ | refine sq_mv rfl ?_ | refine sq_ende (by first | exact .inl rfl | exact .inr rfl) rfl rfl ⟨_, (RVs.cons (RV.tmp rfl) (RVs.nil)), ?_⟩) | refine j_nil ?_ | ((refine sc_cond rfl ?_ ?_) <;> intro hc <;> (first | exact absurd hc (by decide) | ((try simp only [engHC] at hc) <;> first | (exfalso; omega) | exact absurd trivial hc | skip))))
  revert b; intro b2
  refine sc_own_nil_at 3 1 ?_
  refine sc_rangeP (σ := List Int) (ξ := Value) encI Pre Ys (fun s x => (s ++ [x], none)) (fun s i => [.own i 3 1 s.length (s.flatMap intC), .cells b2 44 [i]]) [] (.slice none 0 0) rfl rfl hcal (fun x S vs w h => by rw [h]; rfl) (parsLt rfl) (by repeat (first | exact LSub.nil | refine LSub.cons (by repeat (first | exact Rem.here | apply Rem.there)) ?_)) ?_ ?_ ?_ ?_ ?_
  · intro s i S p hm; simp at hm
  · intro w' l D r hS
    exact hit w' _ hS.near (fun b hb => ((foots_old (B := 0) hS hb).1).resolve_right (fun h => h))
  · intro l D r W1 s i x vs Q henc hat hready hS1 hfin
    clear hS1
    obtain ⟨pre, hpre, hs⟩ := hat
    subst henc
    have hl := hlen _ hpre
    rw [hfoldl, List.nil_append] at hs
    subst hs
    rw [List.length_append, List.length_singleton] at hl
    refine sc_owns (e := 3) (sz := 1) (n := s.length) (xs := s.flatMap intC) (by (repeat constructor)) ?_
    rintro A1 c1 rfl hs1
    repeat' (first | (refine gJ ?_; first | refine js rfl rfl rfl rfl ?_ | (refine gload rfl rfl ?_; refine j_qe rfl rfl rfl ?_; first | refine ⟨_, q_load_own rfl rfl rfl rfl (by (repeat constructor)) (by first | rfl | assumption), ?_⟩ | refine ⟨_, q_loadA_own rfl rfl rfl rfl (by (repeat constructor)) (by rfl), ?_⟩ | refine ⟨_, q_loadA_ext rfl rfl rfl rfl ⟨by assumption, (by first | exact id | assumption)⟩ (by rfl), ?_⟩ | refine ⟨_, q_load_ext rfl rfl rfl rfl ⟨by assumption, (by first | exact id | assumption)⟩ (by first | rfl | assumption), ?_⟩ | refine ⟨_, q_load_extb rfl rfl rfl rfl ⟨by assumption, (by first | exact id | assumption)⟩ (by rfl), ?_⟩ | refine ⟨_, q_loadA_extb rfl rfl rfl rfl ⟨by assumption, (by first | exact id | assumption)⟩ (by rfl), ?_⟩ | refine ⟨_, q_load_ext0 rfl rfl rfl rfl ⟨by assumption, (by first | exact id | assumption)⟩ (by rfl), ?_⟩) | (refine gF ?_; first | refine j_store rfl rfl rfl rfl rfl rfl rfl rfl (by (repeat constructor)) (by rfl) ?_ | (refine j_box rfl rfl rfl rfl rfl ?_; intro b) | (refine j_buildSlice rfl rfl rfl rfl rfl rfl rfl rfl rfl rfl rfl rfl ?_; intro b) | (refine j_append rfl rfl rfl rfl rfl rfl rfl rfl rfl rfl rfl (by (repeat constructor)) (by (repeat constructor)) (by rfl) (by rfl) (by omega) (fun _ => by (repeat constructor)) ?_; intro v))) | (refine gSC ?_; first | refine sc_mv rfl ?_ | refine sc_q rfl ?_ | refine sc_region ?_) | (refine gSQ ?_; first | refine sq_go rfl ?_ | refine sq_mv rfl ?_ | refine sq_ende (by first | exact .inl rfl | exact .inr rfl) rfl rfl ⟨_, (RVs.cons (RV.tmp rfl) (RVs.nil)), ?_⟩) | refine j_nil ?_ | ((refine sc_cond rfl ?_ ?_) <;> intro hc <;> (first | exact absurd hc (by decide) | ((try simp only [engHC] at hc) <;> first | (exfalso; omega) | exact absurd trivial hc | skip))))
    refine sq_begin rfl hready (by (repeat constructor)) ?_
    repeat' (first | (refine gJ ?_; first | refine js rfl rfl rfl rfl ?_ | (refine gload rfl rfl ?_; refine j_qe rfl rfl rfl ?_; first | refine ⟨_, q_load_own rfl rfl rfl rfl (by (repeat constructor)) (by first | rfl | assumption), ?_⟩ | refine ⟨_, q_loadA_own rfl rfl rfl rfl (by (repeat constructor)) (by rfl), ?_⟩ | refine ⟨_, q_loadA_ext rfl rfl rfl rfl ⟨by assumption, (by first | exact id | assumption)⟩ (by rfl), ?_⟩ | refine ⟨_, q_load_ext rfl rfl rfl rfl ⟨by assumption, (by first | exact id | assumption)⟩ (by first | rfl | assumption), ?_⟩ | refine ⟨_, q_load_extb rfl rfl rfl rfl ⟨by assumption, (by first | exact id | assumption)⟩ (by rfl), ?_⟩ | refine ⟨_, q_loadA_extb rfl rfl rfl rfl ⟨by assumption, (by first | exact id | assumption)⟩ (by rfl), ?_⟩ | refine ⟨_, q_load_ext0 rfl rfl rfl rfl ⟨by assumption, (by first | exact id | assumption)⟩ (by rfl), ?_⟩) | (refine gF ?_; refine j_append rfl rfl rfl rfl rfl rfl rfl rfl rfl rfl rfl (by (repeat constructor)) (by (repeat constructor)) (by rfl) (by rfl) (by omega) (fun _ => by (repeat constructor)) ?_; intro v; refine j_owns (v := v) (by (repeat constructor)) ?_; rintro A3 c3 rfl hs3) | (refine gF ?_; first | refine j_store rfl rfl rfl rfl rfl rfl rfl rfl (by (repeat constructor)) (by rfl) ?_ | (refine j_box rfl rfl rfl rfl rfl ?_; intro b) | (refine j_buildSlice rfl rfl rfl rfl rfl rfl rfl rfl rfl rfl rfl rfl ?_; intro b) | (refine j_append rfl rfl rfl rfl rfl rfl rfl rfl rfl rfl rfl (by (repeat constructor)) (by (repeat constructor)) (by rfl) (by rfl) (by omega) (fun _ => by (repeat constructor)) ?_; intro v))) | (refine gSC ?_; first | refine sc_mv rfl ?_ | refine sc_q rfl ?_ | refine sc_region ?_) | (refine gSQ ?_; first | refine sq_go rfl ?_ | refine sq_mv rfl ?_ | refine sq_ende (by first | exact .inl rfl | exact .inr rfl) rfl rfl ⟨_, (RVs.cons (RV.tmp rfl) (RVs.nil)), ?_⟩) | refine j_nil ?_ | ((refine sc_cond rfl ?_ ?_) <;> intro hc <;> (first | exact absurd hc (by decide) | ((try simp only [engHC] at hc) <;> first | (exfalso; omega) | exact absurd trivial hc | skip))))
    refine hfin .normal none (.slice A3 (s.length + 1) c3) _ _ _ rfl rfl (by repeat (first | exact Rem.here | apply Rem.there)) ?_
    dsimp only
    rw [own_snoc]
    exact (by repeat (first | exact LSub.refl | refine LSub.cons (by repeat (first | exact Rem.here | apply Rem.there)) ?_ | apply LSub.skip))
  · intro D i ys hys hj
    rw [hfold]
    dsimp only
    rw [List.nil_append]
    refine sq_blk ?_
    refine sq_seq ?_
    refine sc_owns (e := 3) (sz := 1) (n := ys.length) (xs := ys.flatMap intC) (by (repeat constructor)) ?_
    rintro A1 c1 rfl hs1
    repeat' (first | (refine gJ ?_; first | refine js rfl rfl rfl rfl ?_ | (refine gload rfl rfl ?_; refine j_qe rfl rfl rfl ?_; first | refine ⟨_, q_load_own rfl rfl rfl rfl (by (repeat constructor)) (by first | rfl | assumption), ?_⟩ | refine ⟨_, q_loadA_own rfl rfl rfl rfl (by (repeat constructor)) (by rfl), ?_⟩ | refine ⟨_, q_loadA_ext rfl rfl rfl rfl ⟨by assumption, (by first | exact id | assumption)⟩ (by rfl), ?_⟩ | refine ⟨_, q_load_ext rfl rfl rfl rfl ⟨by assumption, (by first | exact id | assumption)⟩ (by first | rfl | assumption), ?_⟩ | refine ⟨_, q_load_extb rfl rfl rfl rfl ⟨by assumption, (by first | exact id | assumption)⟩ (by rfl), ?_⟩ | refine ⟨_, q_loadA_extb rfl rfl rfl rfl ⟨by assumption, (by first | exact id | assumption)⟩ (by rfl), ?_⟩ | refine ⟨_, q_load_ext0 rfl rfl rfl rfl ⟨by assumption, (by first | exact id | assumption)⟩ (by rfl), ?_⟩) | (refine gF ?_; first | refine j_store rfl rfl rfl rfl rfl rfl rfl rfl (by (repeat constructor)) (by rfl) ?_ | (refine j_box rfl rfl rfl rfl rfl ?_; intro b) | (refine j_buildSlice rfl rfl rfl rfl rfl rfl rfl rfl rfl rfl rfl rfl ?_; intro b) | (refine j_append rfl rfl rfl rfl rfl rfl rfl rfl rfl rfl rfl (by (repeat constructor)) (by (repeat constructor)) (by rfl) (by rfl) (by omega) (fun _ => by (repeat constructor)) ?_; intro v))) | (refine gSC ?_; first | refine sc_mv rfl ?_ | refine sc_q rfl ?_ | refine sc_region ?_) | (refine gSQ ?_; first | refine sq_go rfl ?_ | refine sq_mv rfl ?_ | refine sq_ende (by first | exact .inl rfl | exact .inr rfl) rfl rfl ⟨_, (RVs.cons (RV.tmp rfl) (RVs.nil)), ?_⟩) | refine j_nil ?_ | ((refine sc_cond rfl ?_ ?_) <;> intro hc <;> (first | exact absurd hc (by decide) | ((try simp only [engHC] at hc) <;> first | (exfalso; omega) | exact absurd trivial hc | skip))))
    refine sq_endm (.inl rfl) rfl rfl (by repeat (first | exact Rem.here | apply Rem.there)) ⟨_, (RVs.cons (RV.tmp rfl) (RVs.nil)), ?_⟩
    intro w' hS
    exact ⟨(.slice A1 ys.length c1, ys), hys, rfl, hS.sub (by repeat (first | exact LSub.refl | refine LSub.cons (by repeat (first | exact Rem.here | apply Rem.there)) ?_ | apply LSub.skip))⟩
  · intro D i ys c hys hj
    rw [hfold] at hj
    cases hj
open Go.Sort Go.RowKit in
theorem sort_c {w0 w : World} {hot : Nat → Prop} {L L' : List HA} {v : Value} {e : Nat} {zs : List Int} (hs : St w0 hot L w) (hlen : zs.length < 4611686018427387904)
    (hup : Upd L (.own v e 1 zs.length (zs.map (Value.int .i64))) (.own v e 1 zs.length ((zs.mergeSort fun x y => decide (x ≤ y)).map (Value.int .i64))) L') :
    Calls Try.prog 46 #[v] w fun e w' => ∃ u : Unit, True ∧ e = .returned (.tuple #[]) ∧ St w0 hot L' w' := by
  obtain ⟨N, hp1, hp2⟩ := hup.perm
  have hA := (hs.perm hp1).head
  rcases hA.2.2 with ⟨rfl, hn⟩ | ⟨g, cap, cur, rfl, hg, hh, hcap, hmax, hsz, htk⟩
  · have hz : zs = [] := List.length_eq_zero_iff.1 hn
    subst hz
    refine (Try.slices_Sort_int_none none 0 w).mono fun e' w' ⟨he, hw⟩ => ⟨(), trivial, he, ?_⟩
    subst hw
    exact (hs.perm hp1).perm (by simpa using hp2.symm)
  · have hH := holds_of_blockI (ss := zs) hh (by simpa using htk)
    have hlt := (Array.getElem?_eq_some_iff.1 hh).1
    refine (Try.slices_Sort_int g 0 cap zs w hH hlt hlen).mono fun e' w' ⟨he, n, os, hw⟩ => ⟨(), trivial, he, ?_⟩
    subst hw
    have hgb := grownBy_sortedI (w := w) (g := g) (n := n) (os := os) (zs.mergeSort fun x y => decide (x ≤ y)).toArray
    have hrow := ownsRow_sortedI (n := n) (os := os) (ts := zs.mergeSort fun x y => decide (x ≤ y)) (ss := zs) (by simp) hg hh hcap hmax (by simpa using hsz)
    refine hs.upd hup ⟨hgb.os, hgb.tape, hgb.output, hgb.size, fun k hk => by omega⟩ (fun b hb hne => hgb.block b hb (fun e => hne ?_)) ⟨hA.1, hrow⟩ (fun b hb => .inl hb)
    exact (congrArg id e.symm : (Value.slice (some ⟨g, 0, none⟩) zs.length cap).ownBlock = some b)
theorem map_flat (l : List Int) : l.map (Value.int .i64) = l.flatMap intC := by
  induction l with
  | nil => rfl
  | cons x l ih => simp [ih]
def sortI (l : List Int) : List Int := l.mergeSort fun x y => decide (x ≤ y)
theorem sort_len (l : List Int) : (sortI l).length = l.length := List.length_mergeSort l
theorem sortI_c {w0 w : World} {hot : Nat → Prop} {L L' : List HA} {v : Value} {e : Nat} {zs : List Int} (hs : St w0 hot L w) (hlen : zs.length < 4611686018427387904)
    (hup : Upd L (.own v e 1 zs.length (zs.map (Value.int .i64))) (.own v e 1 zs.length ((sortI zs).map (Value.int .i64))) L') :
    Calls Try.prog 46 #[v] w fun e w' => ∃ u : Unit, True ∧ e = .returned (.tuple #[]) ∧ St w0 hot L' w' := sort_c hs hlen hup
theorem sortI_perm {a b : List Int} (h : a.Perm b) : sortI a = sortI b := by
  unfold sortI
  have p1 := List.mergeSort_perm a (fun x y : Int => decide (x ≤ y))
  have p2 := List.mergeSort_perm b (fun x y : Int => decide (x ≤ y))
  have s1 := List.pairwise_mergeSort (le := fun x y : Int => decide (x ≤ y)) (fun a b c h1 h2 => by simp at *; omega) (fun a b => by simp; omega) a
  have s2 := List.pairwise_mergeSort (le := fun x y : Int => decide (x ≤ y)) (fun a b c h1 h2 => by simp at *; omega) (fun a b => by simp; omega) b
  exact (p1.trans (h.trans p2.symm)).eq_of_pairwise (fun x y _ _ h1 h2 => by simp at h1 h2; omega) s1 s2
theorem sortI_sorted (l : List Int) : (sortI l).Pairwise (· ≤ ·) := by
  have s1 := List.pairwise_mergeSort (le := fun x y : Int => decide (x ≤ y)) (fun a b c h1 h2 => by simp at *; omega) (fun a b => by simp; omega) l
  exact s1.imp (fun h => by simpa using h)
attribute [local irreducible] sortI
theorem near_le {w w1 w2 : World} (h : Near w.heap.size Cold w w1) (hn : Near w1.heap.size Cold w1 w2) : Near w.heap.size Cold w w2 :=
  h.trans ⟨hn.os, hn.tape, hn.output, hn.size, fun k hk hh => hn.block k (Nat.lt_of_lt_of_le hk h.size) hh⟩
theorem collect_c (gf : Nat) (lb : List Value) (Pre Ys : List Int → Prop) (w : World) (hcal : has fns gf = true) (hlen : ∀ l, Pre l → l.length ≤ 1000000) (hit : ∀ w' S0, Near w.heap.size Cold w w' → (∀ b, S0 b → w.heap.size ≤ b) → IteratesP Try.prog gf lb encI Pre Ys w' S0) :
    Calls Try.prog 45 #[.func (.func gf) #[] lb.toArray] w fun e w' => ∃ x : Value × List Int, Ys x.2 ∧ e = .returned x.1 ∧ St w Cold [.own x.1 3 1 x.2.length (x.2.flatMap intC)] w' := by
  refine eng_start (n := 5) (args := [.func (.func gf) #[] lb.toArray]) tab tab_ok fns fns_ok [.tmp 2] Try.func45 rfl rfl rfl rfl ?_
  repeat' (first | (refine gJ ?_; first | refine js rfl rfl rfl rfl ?_ | (refine gcall rfl rfl ?_; refine gF ?_; refine j_callN (f := 53) rfl rfl rfl rfl rfl rfl rfl (fun x : Value × List Int => x.1) (fun x => Ys x.2) (fun x => [.own x.1 3 1 x.2.length (x.2.flatMap intC)]) (fun w' hs => appseq_c gf lb Pre Ys w' hcal hlen (fun w2 S0 hn hS0 => hit w2 S0 (near_le hs.near hn) (fun b hb => Nat.le_trans hs.near.size (hS0 b hb)))) (fun _ => trivial) ?_; rintro ⟨v1, ys⟩ hys)) | (refine gSC ?_; first | refine sc_mv rfl ?_ | refine sc_q rfl ?_ | refine sc_region ?_) | (refine gSQ ?_; first | refine sq_go rfl ?_ | refine sq_mv rfl ?_ | refine sq_ende (by first | exact .inl rfl | exact .inr rfl) rfl rfl ⟨_, (RVs.cons (RV.tmp rfl) (RVs.nil)), ?_⟩) | refine j_nil ?_ | ((refine sc_cond rfl ?_ ?_) <;> intro hc <;> (first | exact absurd hc (by decide) | ((try simp only [engHC] at hc) <;> first | (exfalso; omega) | exact absurd trivial hc | skip))))
  intro w' hS
  exact ⟨(v1, ys), hys, rfl, hS.sub (by repeat (first | exact LSub.refl | refine LSub.cons (by repeat (first | exact Rem.here | apply Rem.there)) ?_ | apply LSub.skip))⟩
theorem sorted_c (gf : Nat) (lb : List Value) (ks : List Int) (Pre : List Int → Prop) (w : World) (hcal : has fns gf = true) (hk : ks.length ≤ 1000000) (hlen : ∀ l, Pre l → l.length ≤ 1000000) (hit : ∀ w' S0, Near w.heap.size Cold w w' → (∀ b, S0 b → w.heap.size ≤ b) → IteratesP Try.prog gf lb encI Pre (fun l => l.Perm ks) w' S0) :
    Calls Try.prog 36 #[.func (.func gf) #[] lb.toArray] w fun e w' => ∃ v : Value, True ∧ e = .returned v ∧ St w Cold [.own v 3 1 (sortI ks).length ((sortI ks).flatMap intC)] w' := by
  refine eng_start (n := 9) (args := [.func (.func gf) #[] lb.toArray]) tab tab_ok fns fns_ok [.tmp 2] Try.func36 rfl rfl rfl rfl ?_
  repeat' (first | (refine gJ ?_; first | refine js rfl rfl rfl rfl ?_ | (refine gcall rfl rfl ?_; refine gF ?_; refine j_callN (f := 45) rfl rfl rfl rfl rfl rfl rfl (fun x : Value × List Int => x.1) (fun x => x.2.Perm ks) (fun x => [.own x.1 3 1 x.2.length (x.2.flatMap intC)]) (fun w' hs => collect_c gf lb Pre _ w' hcal hlen (fun w2 S0 hn hS0 => hit w2 S0 (near_le hs.near hn) (fun b hb => Nat.le_trans hs.near.size (hS0 b hb)))) (fun _ => trivial) ?_; rintro ⟨v1, ys⟩ hys; dsimp only at hys ⊢; rw [← map_flat ys]) | (refine gcall rfl rfl ?_; refine gF ?_; refine j_call (f := 46) (ξ := Unit) (fun _ => .tuple #[]) (fun _ => True) (fun _ => [.own v1 3 1 ys.length ((sortI ys).map (Value.int .i64))]) rfl rfl rfl rfl rfl rfl rfl (fun w' hs => sortI_c (zs := ys) (v := v1) (e := 3) hs (by have := hys.length_eq; omega) (by (repeat constructor))) ?_; intro _ _; rw [map_flat (sortI ys)])) | (refine gSC ?_; first | refine sc_mv rfl ?_ | refine sc_q rfl ?_ | refine sc_region ?_) | (refine gSQ ?_; first | refine sq_go rfl ?_ | refine sq_mv rfl ?_ | refine sq_ende (by first | exact .inl rfl | exact .inr rfl) rfl rfl ⟨_, (RVs.cons (RV.tmp rfl) (RVs.nil)), ?_⟩) | refine j_nil ?_ | ((refine sc_cond rfl ?_ ?_) <;> intro hc <;> (first | exact absurd hc (by decide) | ((try simp only [engHC] at hc) <;> first | (exfalso; omega) | exact absurd trivial hc | skip))))
  intro w' hS
  refine ⟨v1, trivial, rfl, ?_⟩
  rw [← sortI_perm hys, sort_len ys]
  exact hS.sub (by repeat (first | exact LSub.refl | refine LSub.cons (by repeat (first | exact Rem.here | apply Rem.there)) ?_ | apply LSub.skip))
end Go.Proofs.Ytagndgidfaladaa

/-
  The lexicon: numbers, Prefix.
-/
namespace Go.Proofs.Ytagndgidfaladaa
open Go.RowKit Eng
set_option linter.unusedVariables false
set_option linter.unusedSimpArgs false
set_option maxHeartbeats 8000000
attribute [local irreducible] SC SQ J Qt Calls Iterates LSub FSub
theorem walk_c {τ : Type} (Jn : τ → (Nat → Prop) → World → Prop) (stp : τ → Int → τ × Bool) (live : τ → Prop) (s0 : τ) (la : Nat) (W : List (List UInt8)) (ar : List Nd) (p0 : List UInt8) (hA : ArW ar W) (hnd : W.Nodup) : ∀ (d : Nat) (x : Nd), x ∈ ar → 40 - x.path.length ≤ d → WK Jn stp live s0 la W ar p0 x
  | 0, x, hx, hd => walk_s Jn stp live s0 la W ar p0 hA hnd x hx fun y hy hl => by
    have := hA.pl y hy
    omega
  | d + 1, x, hx, hd => walk_s Jn stp live s0 la W ar p0 hA hnd x hx fun y hy hl => walk_c Jn stp live s0 la W ar p0 hA hnd d y hy (by omega)
theorem numbers_c (o : Option Addr) (w : World) : Calls Try.prog 37 #[.pointer o] w fun e w' => ∃ bk : Nat, True ∧ e = .returned (.func (.func 47) #[] #[ptrV bk]) ∧ St w Cold [.cells bk 56 [.pointer o]] w' := by
  refine eng_start (n := 4) (args := [.pointer o]) tab tab_ok fns fns_ok [.tmp 2] Try.func37 rfl rfl rfl rfl ?_
  repeat' (first | (refine gJ ?_; first | refine js rfl rfl rfl rfl ?_ | (refine gF ?_; first | (refine j_box rfl rfl rfl rfl rfl ?_; intro b)) | (refine j_qe rfl rfl rfl ?_; first | refine ⟨_, q_makeFunc rfl rfl, ?_⟩)) | (refine gSC ?_; first | refine sc_mv rfl ?_ | refine sc_q rfl ?_ | refine sc_region ?_) | (refine gSQ ?_; first | refine sq_go rfl ?_ | refine sq_mv rfl ?_ | refine sq_ende (by first | exact .inl rfl | exact .inr rfl) rfl rfl ⟨_, (RVs.cons (RV.tmp rfl) (RVs.nil)), ?_⟩) | refine j_nil ?_ | ((refine sc_cond rfl ?_ ?_) <;> intro hc <;> (first | exact absurd hc (by decide) | ((try simp only [engHC] at hc) <;> first | (exfalso; omega) | exact absurd trivial hc | skip))))
  intro w' hS
  exact ⟨_, trivial, rfl, hS.sub (by repeat (first | exact LSub.nil | refine LSub.cons (by repeat (first | exact Rem.here | apply Rem.there)) ?_))⟩
set_option maxRecDepth 4000 in
theorem nums_it (bk : Nat) (o : Option Addr) {W : List (List UInt8)} {ar : List Nd} (hA : ArW ar W) (hnd : W.Nodup) (p : List UInt8) (ho : (∃ x ∈ ar, x.path = p ∧ o = some ⟨x.b, 0, none⟩) ∨ ((∀ x ∈ ar, x.path ≠ p) ∧ o = none)) (w : World) (S0 : Nat → Prop) (h1 : Ext w ⟨bk, 0, none⟩ [.pointer o]) (c1 : ¬ S0 bk) (hN : ∀ y ∈ ar, NDS w S0 ar W y) :
    IteratesP Try.prog 47 [ptrV bk] encI (PreN W p) (YsN W p) w S0 := by
  intro τ Jn stp live s0 la hcons hl0 hJ0
  rcases ho with ⟨x, hx, rfl, rfl⟩ | ⟨hno, rfl⟩
  · have hcall : ∀ w', St w S0 [.abs S0 (Jn s0 S0)] w' → Calls Try.prog 48 #[ptrV x.b, .func (.yield la) #[] #[]] w' fun e w'' => ∃ i : Bool × List Int × List Int × τ × (Nat → Prop), WkP stp live s0 W x.path [] s0 i.1 i.2.1 i.2.2.1 i.2.2.2.1 ∧ e = .returned (.bool i.1) ∧ St w S0 [.abs i.2.2.2.2 (Jn i.2.2.2.1 i.2.2.2.2)] w'' := fun w' hs => by
      have hA9 := hs.at (x := .abs S0 (Jn s0 S0)) (by (repeat constructor))
      have hSS : ∀ z, S0 z → S0 z ∨ w.heap.size ≤ z := fun z hz => .inl hz
      refine (walk_c Jn stp live s0 la W ar x.path hA hnd 40 x hx (by omega) w' S0 [] [] s0 (fun z hz => (hN z hz).near hs.near hSS) (hcons.later hs.near hSS) hl0 rfl (by rw [List.append_nil, List.nil_append]) hA9.2.1).mono fun e w'' ⟨i, h1, h2, h3⟩ => ⟨i, h1, h2, hs.backA (S1 := S0) (p := Jn s0 S0) (S2 := i.2.2.2.2) (q := Jn i.2.2.2.1 i.2.2.2.2) (by (repeat constructor)) h3 (fun w3 hn3 hk3 => hcons.stab _ _ _ _ h3.head.2.1 hn3 hk3 (fun z hz => ((h3.head.1 z hz).1).elim (fun g => .inr (Nat.le_trans hs.near.size g)) (hSS z)))⟩
    refine eng_start_lent (n := 8) (args := [.func (.yield la) #[] #[], ptrV bk]) tab tab_ok fns fns_ok [] _ _ Try.func47 rfl rfl rfl rfl (hcons.start hJ0) ?_
    repeat' (first | (refine gJ ?_; first | refine js rfl rfl rfl rfl ?_ | (refine gload rfl rfl ?_; refine j_qe rfl rfl rfl ?_; first | refine ⟨_, q_load_own rfl rfl rfl rfl (by (repeat constructor)) (by first | rfl | assumption), ?_⟩ | refine ⟨_, q_loadA_own rfl rfl rfl rfl (by (repeat constructor)) (by rfl), ?_⟩ | refine ⟨_, q_loadA_ext rfl rfl rfl rfl ⟨by assumption, (by first | exact id | assumption)⟩ (by rfl), ?_⟩ | refine ⟨_, q_load_ext rfl rfl rfl rfl ⟨by assumption, (by first | exact id | assumption)⟩ (by first | rfl | assumption), ?_⟩ | refine ⟨_, q_load_extb rfl rfl rfl rfl ⟨by assumption, (by first | exact id | assumption)⟩ (by rfl), ?_⟩ | refine ⟨_, q_loadA_extb rfl rfl rfl rfl ⟨by assumption, (by first | exact id | assumption)⟩ (by rfl), ?_⟩ | refine ⟨_, q_load_ext0 rfl rfl rfl rfl ⟨by assumption, (by first | exact id | assumption)⟩ (by rfl), ?_⟩) | (refine j_qe rfl rfl rfl ?_; first | refine ⟨_, q_neq_nilS rfl rfl rfl rfl, ?_⟩ | refine ⟨_, q_neq_nilN rfl rfl rfl rfl, ?_⟩) | (refine gcall rfl rfl ?_; refine gF ?_; refine j_call (f := 48) (ξ := Bool × List Int × List Int × τ × (Nat → Prop)) (fun i => .bool i.1) (fun i => WkP stp live s0 W x.path [] s0 i.1 i.2.1 i.2.2.1 i.2.2.2.1) (fun i => [.abs i.2.2.2.2 (Jn i.2.2.2.1 i.2.2.2.2)]) rfl rfl rfl rfl rfl rfl rfl (fun w' hs => hcall w' hs) ?_; rintro ⟨bo, ys, r, s2, S2⟩ hK; dsimp only)) | (refine gSC ?_; first | refine sc_mv rfl ?_ | refine sc_q rfl ?_ | refine sc_region ?_) | (refine gSQ ?_; first | refine sq_go rfl ?_ | refine sq_mv rfl ?_ | refine sq_ende (by first | exact .inl rfl | exact .inr rfl) rfl rfl ⟨_, (RVs.nil), ?_⟩) | refine j_nil ?_ | ((refine sc_cond rfl ?_ ?_) <;> intro hc <;> (first | exact absurd hc (by decide) | ((try simp only [engHC] at hc) <;> first | (exfalso; omega) | exact absurd trivial hc | skip))))
    intro w' hS
    have h9 := hS.at (x := .abs S2 (Jn s2 S2)) (by (repeat constructor))
    have hpm := hK.pm
    have hgo := hK.go
    have hrn := hK.run r
    dsimp only at hpm hgo hrn
    refine ⟨⟨_, rfl⟩, hS.near, ys ++ r, hpm, S2, ?_, fun z hz => (h9.1 z hz).1.symm⟩
    rw [hrn]
    cases bo with
    | false => exact h9.2.1
    | true =>
      rw [if_pos rfl, (hgo rfl).1]
      exact h9.2.1
  · refine eng_start_lent (n := 8) (args := [.func (.yield la) #[] #[], ptrV bk]) tab tab_ok fns fns_ok [] _ _ Try.func47 rfl rfl rfl rfl (hcons.start hJ0) ?_
    repeat' (first | (refine gJ ?_; first | refine js rfl rfl rfl rfl ?_ | (refine gload rfl rfl ?_; refine j_qe rfl rfl rfl ?_; first | refine ⟨_, q_load_own rfl rfl rfl rfl (by (repeat constructor)) (by first | rfl | assumption), ?_⟩ | refine ⟨_, q_loadA_own rfl rfl rfl rfl (by (repeat constructor)) (by rfl), ?_⟩ | refine ⟨_, q_loadA_ext rfl rfl rfl rfl ⟨by assumption, (by first | exact id | assumption)⟩ (by rfl), ?_⟩ | refine ⟨_, q_load_ext rfl rfl rfl rfl ⟨by assumption, (by first | exact id | assumption)⟩ (by first | rfl | assumption), ?_⟩ | refine ⟨_, q_load_extb rfl rfl rfl rfl ⟨by assumption, (by first | exact id | assumption)⟩ (by rfl), ?_⟩ | refine ⟨_, q_loadA_extb rfl rfl rfl rfl ⟨by assumption, (by first | exact id | assumption)⟩ (by rfl), ?_⟩ | refine ⟨_, q_load_ext0 rfl rfl rfl rfl ⟨by assumption, (by first | exact id | assumption)⟩ (by rfl), ?_⟩) | (refine j_qe rfl rfl rfl ?_; first | refine ⟨_, q_neq_nilS rfl rfl rfl rfl, ?_⟩ | refine ⟨_, q_neq_nilN rfl rfl rfl rfl, ?_⟩)) | (refine gSC ?_; first | refine sc_mv rfl ?_ | refine sc_q rfl ?_ | refine sc_region ?_) | (refine gSQ ?_; first | refine sq_go rfl ?_ | refine sq_mv rfl ?_ | refine sq_ende (by first | exact .inl rfl | exact .inr rfl) rfl rfl ⟨_, (RVs.nil), ?_⟩) | refine j_nil ?_ | ((refine sc_cond rfl ?_ ?_) <;> intro hc <;> (first | exact absurd hc (by decide) | ((try simp only [engHC] at hc) <;> first | (exfalso; omega) | exact absurd trivial hc | skip))))
    intro w' hS
    have h9 := hS.at (x := .abs S0 (Jn s0 S0)) (by (repeat constructor))
    exact ⟨⟨_, rfl⟩, hS.near, [], by show List.Perm [] _; rw [num_none hA.ok hA.wd hno], S0, h9.2.1, fun z hz => (h9.1 z hz).1.symm⟩
theorem nums_hit (bk : Nat) (o : Option Addr) {W : List (List UInt8)} {ar : List Nd} (hA : ArW ar W) (hnd : W.Nodup) (p : List UInt8) (ho : (∃ x ∈ ar, x.path = p ∧ o = some ⟨x.b, 0, none⟩) ∨ ((∀ x ∈ ar, x.path ≠ p) ∧ o = none)) (w : World) (h1 : Ext w ⟨bk, 0, none⟩ [.pointer o]) (hN : ∀ y ∈ ar, NDS w Cold ar W y) :
    ∀ w' S0, Near w.heap.size Cold w w' → (∀ z, S0 z → w.heap.size ≤ z) → IteratesP Try.prog 47 [ptrV bk] encI (PreN W p) (YsN W p) w' S0 := fun w' S0 hn hS0 =>
  nums_it bk o hA hnd p ho w' S0 (Ext_nr h1 hn h1.lt (fun h => h)) (fun h => by have := hS0 _ h; have := h1.lt; dsimp only at this; omega) (fun y hy => (hN y hy).near hn (fun k hk => .inr (hS0 k hk)))
theorem LX.nds {w : World} {W : List (List UInt8)} {bx rb rm : Nat} {A0 : Option Addr} {c0 : Nat} {ar : List Nd} (h : LX w W bx rb rm A0 c0 ar) (y : Nd) (hy : y ∈ ar) : NDS w Cold ar W y := ⟨(h.nd y hy).1, fun e => e, (h.nd y hy).2, fun e => e⟩
theorem sortI_numU (W : List (List UInt8)) (p : List UInt8) : sortI (numU W p) = numU W p :=
  (List.mergeSort_perm _ _).eq_of_pairwise (fun x y _ _ h1 h2 => by omega) (sortI_sorted _) ((numU_up W p).imp fun h => by omega)
theorem PreN.len {W : List (List UInt8)} {p : List UInt8} {l : List Int} (h : PreN W p l) : l.length ≤ W.length := by
  obtain ⟨r, hr⟩ := h
  have h1 := hr.length_eq
  have h2 := numU_len W p
  rw [List.length_append] at h1
  omega
set_option maxRecDepth 4000 in
theorem Prefix_c {w : World} {W : List (List UInt8)} {bx rb rm : Nat} {A0 : Option Addr} {c0 : Nat} {ar : List Nd} (h : LX w W bx rb rm A0 c0 ar) (hok : WsOk W) (s : List UInt8) (hsl : s.length ≤ 1000) :
    Calls Try.prog 19 #[ptrV bx, strV s] w fun e w' => ∃ v : Value, True ∧ e = .returned v ∧ St w Cold [.own v 3 1 (numU W s).length ((numU W s).flatMap intC)] w' := by
  have ha := fun (w' : World) (hl : LX w' W bx rb rm A0 c0 ar) => at_c hl s hsl
  have hnl := numU_len W s
  have hwl := hok.len
  have hho : (∃ x ∈ ar, x.path = s ∧ nodeO ar s = some ⟨x.b, 0, none⟩) ∨ ((∀ x ∈ ar, x.path ≠ s) ∧ nodeO ar s = none) := nodeO_cases h.aw.ok s
  have hsr := fun (bk : Nat) (w' : World) (h1 : Ext w' ⟨bk, 0, none⟩ [.pointer (nodeO ar s)]) (hl : LX w' W bx rb rm A0 c0 ar) => sorted_c 47 [ptrV bk] (numU W s) (PreN W s) w' rfl (by omega) (fun l hl => Nat.le_trans hl.len (by omega)) (nums_hit bk (nodeO ar s) h.aw hok.nd s hho w' h1 hl.nds)
  rw [sortI_numU] at hsr
  refine eng_start (n := 10) (args := [ptrV bx, strV s]) tab tab_ok fns fns_ok [.tmp 4] Try.func19 rfl rfl rfl rfl ?_
  repeat' (first | (refine gJ ?_; first | refine js rfl rfl rfl rfl ?_ | (refine gcall rfl rfl ?_; first | (refine j_qc (f := 34) rfl rfl rfl rfl rfl rfl rfl ?_; refine ⟨_, (fun w' hs => ha w' (h.later hs)), ?_⟩)) | (refine gcall rfl rfl ?_; refine gF ?_; refine j_callN (f := 37) rfl rfl rfl rfl rfl rfl rfl (fun bk : Nat => .func (.func 47) #[] #[ptrV bk]) (fun _ => True) (fun bk => [.cells bk 56 [.pointer (nodeO ar s)]]) (fun w' hs => numbers_c _ w') (fun _ => trivial) ?_; rintro bk _) | (refine gcall rfl rfl ?_; refine gF ?_; refine j_callN (f := 36) rfl rfl rfl rfl rfl rfl rfl (fun v : Value => v) (fun _ => True) (fun v => [.own v 3 1 (numU W s).length ((numU W s).flatMap intC)]) (fun w' hs => hsr bk w' (hs.ext (u := 56) (by (repeat constructor))) (h.later hs)) (fun _ => trivial) ?_; rintro v9 _)) | (refine gSC ?_; first | refine sc_mv rfl ?_ | refine sc_q rfl ?_ | refine sc_region ?_) | (refine gSQ ?_; first | refine sq_go rfl ?_ | refine sq_mv rfl ?_ | refine sq_ende (by first | exact .inl rfl | exact .inr rfl) rfl rfl ⟨_, (RVs.cons (RV.tmp rfl) (RVs.nil)), ?_⟩) | refine j_nil ?_ | ((refine sc_cond rfl ?_ ?_) <;> intro hc <;> (first | exact absurd hc (by decide) | ((try simp only [engHC] at hc) <;> first | (exfalso; omega) | exact absurd trivial hc | skip))))
  intro w' hS
  exact ⟨v9, trivial, rfl, hS.sub (by repeat (first | exact LSub.refl | refine LSub.cons (by repeat (first | exact Rem.here | apply Rem.there)) ?_ | apply LSub.skip))⟩
end Go.Proofs.Ytagndgidfaladaa
