/-
  In one text: Ed0, Tr0, Ht0, Ht1, Tw, Nw0.
-/
import Derived.Test.YtagndgidfaladaaEngCoreB
import Derived.Test.YtagndgidfaladaaTab
/-
  The distance of two texts. No program in sight.
-/
namespace Go.Proofs.Ytagndgidfaladaa
structure Cs where
  ins : Int
  del : Int
  chg : Int
  swp : Int
deriving DecidableEq
def csOk (c : Cs) : Prop := (1 ≤ c.ins ∧ c.ins ≤ 1000) ∧ (1 ≤ c.del ∧ c.del ≤ 1000) ∧ (1 ≤ c.chg ∧ c.chg ≤ 1000) ∧ (1 ≤ c.swp ∧ c.swp ≤ 1000)
instance (c : Cs) : Decidable (csOk c) := by unfold csOk; exact inferInstance
/-- One row: the distances from x :: a to all ends of b; r is a's row, q that of the text behind a's first byte. -/
def inner (c : Cs) (x : UInt8) (e : Int) (r : List UInt8 → Int) (q : Option (UInt8 × (List UInt8 → Int))) : List UInt8 → Int
  | [] => e
  | y :: b => match q, b with
    | some (x2, r2), y2 :: b2 => if x = y2 ∧ x2 = y ∧ x ≠ x2 then min (min (min (r b + if x ≠ y then c.chg else 0) (r (y :: b) + c.del)) (inner c x e r q b + c.ins)) (r2 b2 + c.swp) else min (min (r b + if x ≠ y then c.chg else 0) (r (y :: b) + c.del)) (inner c x e r q b + c.ins)
    | _, _ => min (min (r b + if x ≠ y then c.chg else 0) (r (y :: b) + c.del)) (inner c x e r q b + c.ins)
def dist (c : Cs) : List UInt8 → List UInt8 → Int
  | [] => fun b => b.length * c.ins
  | x :: a => inner c x ((a.length + 1) * c.del) (dist c a) (match a with
    | [] => none
    | x2 :: a2 => some (x2, dist c a2))
theorem dist_cons (c : Cs) (x : UInt8) (a : List UInt8) : dist c (x :: a) = inner c x ((a.length + 1) * c.del) (dist c a) (match a with
    | [] => none
    | x2 :: a2 => some (x2, dist c a2)) := by cases a <;> rfl
theorem dist_nil (c : Cs) (b : List UInt8) : dist c [] b = b.length * c.ins := rfl
theorem dist_nil2 (c : Cs) : dist c [] [] = 0 := by rw [dist_nil]; simp
theorem dist_end (c : Cs) (x : UInt8) (a : List UInt8) : dist c (x :: a) [] = (a.length + 1) * c.del := by
  rw [dist_cons]
  rfl
/-- What stands at the first bytes of both. -/
def base (c : Cs) (x : UInt8) (a : List UInt8) (y : UInt8) (b : List UInt8) : Int := min (min (dist c a b + if x ≠ y then c.chg else 0) (dist c a (y :: b) + c.del)) (dist c (x :: a) b + c.ins)
theorem dist_swap (c : Cs) (x x2 : UInt8) (a : List UInt8) (b : List UInt8) (h : x ≠ x2) : dist c (x :: x2 :: a) (x2 :: x :: b) = min (base c x (x2 :: a) x2 (x :: b)) (dist c a b + c.swp) := by
  rw [dist_cons]
  unfold inner
  dsimp only
  rw [if_pos ⟨rfl, rfl, h⟩]
  rfl
theorem dist_step (c : Cs) (x : UInt8) (a : List UInt8) (y : UInt8) (b : List UInt8) (h : ∀ x2 a2 y2 b2, a = x2 :: a2 → b = y2 :: b2 → ¬ (x = y2 ∧ x2 = y ∧ x ≠ x2)) : dist c (x :: a) (y :: b) = base c x a y b := by
  rw [dist_cons]
  unfold inner
  cases a with
  | nil => rfl
  | cons x2 a2 =>
    cases b with
    | nil => rfl
    | cons y2 b2 =>
      dsimp only
      rw [if_neg (h x2 a2 y2 b2 rfl rfl)]
      rfl
/-- Both at once: the swap counts where there is one. -/
theorem dist_any (c : Cs) (x : UInt8) (a : List UInt8) (y : UInt8) (b : List UInt8) : dist c (x :: a) (y :: b) = base c x a y b ∨ ∃ a2 b2, a = y :: a2 ∧ b = x :: b2 ∧ x ≠ y ∧ dist c (x :: a) (y :: b) = min (base c x a y b) (dist c a2 b2 + c.swp) := by
  by_cases h : ∃ x2 a2 y2 b2, a = x2 :: a2 ∧ b = y2 :: b2 ∧ (x = y2 ∧ x2 = y ∧ x ≠ x2)
  · obtain ⟨x2, a2, y2, b2, rfl, rfl, rfl, rfl, h4⟩ := h
    exact .inr ⟨a2, b2, rfl, rfl, h4, dist_swap c x x2 a2 b2 h4⟩
  · exact .inl (dist_step c x a y b fun x2 a2 y2 b2 h1 h2 h3 => h ⟨x2, a2, y2, b2, h1, h2, h3⟩)
section
variable {c : Cs} (hc : csOk c)
include hc
theorem dist_nn : ∀ (n : Nat) (a b : List UInt8), a.length + b.length ≤ n → 0 ≤ dist c a b := by
  intro n
  induction n with
  | zero =>
    intro a b h
    cases a with
    | nil => cases b with
      | nil => rw [dist_nil2]; exact Int.le_refl _
      | cons y b => simp at h
    | cons x a => simp at h
  | succ n ih =>
    intro a b h
    cases a with
    | nil => rw [dist_nil]; exact Int.mul_nonneg (by omega) (by have := hc.1; omega)
    | cons x a => cases b with
      | nil => rw [dist_end]; exact Int.mul_nonneg (by omega) (by have := hc.2.1; omega)
      | cons y b =>
        simp only [List.length_cons] at h
        have h1 := ih a b (by omega)
        have h2 := ih a (y :: b) (by simp only [List.length_cons]; omega)
        have h3 := ih (x :: a) b (by simp only [List.length_cons]; omega)
        have hb : 0 ≤ base c x a y b := by unfold base csOk at *; split <;> omega
        rcases dist_any c x a y b with e | ⟨a2, b2, rfl, rfl, _, e⟩
        · rw [e]; exact hb
        · have h4 := ih a2 b2 (by simp only [List.length_cons] at h; omega)
          rw [e]
          unfold csOk at hc
          omega
theorem dist_big : ∀ (n : Nat) (a b : List UInt8), a.length + b.length ≤ n → dist c a b ≤ 1000 * (a.length + b.length : Int) := by
  intro n
  induction n with
  | zero =>
    intro a b h
    cases a with
    | nil => cases b with
      | nil => rw [dist_nil2]; simp
      | cons y b => simp at h
    | cons x a => simp at h
  | succ n ih =>
    intro a b h
    have hk := hc
    unfold csOk at hk
    cases a with
    | nil =>
      rw [dist_nil]
      have := Int.mul_le_mul_of_nonneg_left (c := (b.length : Int)) hk.1.2 (by omega)
      simp only [List.length_nil]
      omega
    | cons x a => cases b with
      | nil =>
        rw [dist_end]
        have := Int.mul_le_mul_of_nonneg_left (c := ((a.length : Int) + 1)) hk.2.1.2 (by omega)
        simp only [List.length_cons, List.length_nil]
        push_cast
        omega
      | cons y b =>
        simp only [List.length_cons] at h
        have h2 := ih a (y :: b) (by simp only [List.length_cons]; omega)
        have hb : base c x a y b ≤ 1000 * ((x :: a).length + (y :: b).length : Int) := by
          unfold base
          simp only [List.length_cons] at h2 ⊢
          push_cast at h2 ⊢
          omega
        rcases dist_any c x a y b with e | ⟨a2, b2, _, _, _, e⟩ <;> rw [e] <;> omega
end
end Go.Proofs.Ytagndgidfaladaa

/-
  The tree of words: its places by their paths. No program in sight.
-/
namespace Go.Proofs.Ytagndgidfaladaa
set_option linter.unusedVariables false
structure Nd where
  path : List UInt8
  b : Nat
  m : Nat
deriving Inhabited
def kid (p : List UInt8) (x : Nd) : Option (UInt8 × Nat) := if x.path ≠ [] ∧ x.path.dropLast = p then some (x.path.getLastD 0, x.b) else none
def kids (ar : List Nd) (p : List UInt8) : List (UInt8 × Nat) := ar.filterMap (kid p)
theorem kid_snoc (p q : List UInt8) (c : UInt8) (b m : Nat) : kid p ⟨q ++ [c], b, m⟩ = if q = p then some (c, b) else none := by
  unfold kid
  have e1 : (q ++ [c]).dropLast = q := List.dropLast_concat
  have e2 : (q ++ [c]).getLastD 0 = c := by simp
  dsimp only
  rw [e1, e2]
  by_cases h : q = p
  · rw [if_pos ⟨by simp, h⟩, if_pos h]
  · rw [if_neg (fun e => h e.2), if_neg h]
theorem kid_iff {p : List UInt8} {x : Nd} {c : UInt8} {b : Nat} : kid p x = some (c, b) ↔ x.path = p ++ [c] ∧ x.b = b := by
  unfold kid
  constructor
  · intro h
    split at h
    · rename_i hc
      injection h with h
      injection h with h1 h2
      refine ⟨?_, h2⟩
      obtain ⟨hne, hdl⟩ := hc
      have e3 : x.path.getLast hne = c := by
        rw [← h1, List.getLastD_eq_getLast?, List.getLast?_eq_some_getLast hne]
        rfl
      have e4 := List.dropLast_concat_getLast hne
      rw [e3, hdl] at e4
      exact e4.symm
    · cases h
  · rintro ⟨h1, h2⟩
    rw [if_pos ⟨by rw [h1]; simp, by rw [h1]; exact List.dropLast_concat⟩, h1, h2]
    simp
structure Ar (ar : List Nd) : Prop where
  rt : ∃ x, ar.head? = some x ∧ x.path = []
  nd : (ar.map (·.path)).Nodup
  cl : ∀ x ∈ ar, ∀ q c, x.path = q ++ [c] → ∃ y ∈ ar, y.path = q
theorem Ar.uniq {ar : List Nd} (h : Ar ar) {x y : Nd} (hx : x ∈ ar) (hy : y ∈ ar) (e : x.path = y.path) : x = y := by
  have h1 := h.nd
  clear h
  induction ar with
  | nil => cases hx
  | cons z l ih =>
    rw [List.map_cons, List.nodup_cons] at h1
    rcases List.mem_cons.1 hx with hx1 | hx1
    · rcases List.mem_cons.1 hy with hy1 | hy1
      · rw [hx1, hy1]
      · exact absurd (List.mem_map.2 ⟨y, hy1, by rw [← e, hx1]⟩) h1.1
    · rcases List.mem_cons.1 hy with hy1 | hy1
      · exact absurd (List.mem_map.2 ⟨x, hx1, by rw [e, hy1]⟩) h1.1
      · exact ih hx1 hy1 h1.2
theorem Ar.root {ar : List Nd} (h : Ar ar) : ∃ x rest, ar = x :: rest ∧ x.path = [] := by
  obtain ⟨x, hx, e⟩ := h.rt
  cases ar with
  | nil => cases hx
  | cons y l =>
    simp at hx
    subst hx
    exact ⟨y, l, rfl, e⟩
/-- All beginnings of a place's path are places. -/
theorem Ar.pre {ar : List Nd} (h : Ar ar) : ∀ (n : Nat) {x : Nd}, x ∈ ar → ∀ {p : List UInt8}, x.path.length = p.length + n → p <+: x.path → ∃ y ∈ ar, y.path = p
  | 0, x, hx, p, hl, hp => ⟨x, hx, (hp.eq_of_length (by omega)).symm⟩
  | n + 1, x, hx, p, hl, hp => by
    have hne : x.path ≠ [] := fun e => by rw [e] at hl; simp at hl
    have e := List.dropLast_concat_getLast hne
    obtain ⟨y, hy, e2⟩ := h.cl x hx _ _ e.symm
    have hl2 : y.path.length = p.length + n := by rw [e2, List.length_dropLast]; omega
    refine Ar.pre h n hy hl2 ?_
    rw [e2]
    obtain ⟨t, ht⟩ := hp
    have htne : t ≠ [] := fun e => by rw [e] at ht; rw [← ht] at hl; simp at hl
    refine ⟨t.dropLast, ?_⟩
    rw [← ht, List.dropLast_append_of_ne_nil htne]
theorem kids_add (ar : List Nd) (p q : List UInt8) (c : UInt8) (b m : Nat) : kids (ar ++ [⟨q ++ [c], b, m⟩]) p = kids ar p ++ if q = p then [(c, b)] else [] := by
  unfold kids
  rw [List.filterMap_append]
  congr 1
  simp only [List.filterMap_cons, List.filterMap_nil, kid_snoc]
  split <;> simp_all
theorem kids_mem {ar : List Nd} {p : List UInt8} {c : UInt8} {b : Nat} : (c, b) ∈ kids ar p ↔ ∃ x ∈ ar, x.path = p ++ [c] ∧ x.b = b := by
  unfold kids
  rw [List.mem_filterMap]
  constructor
  · rintro ⟨x, hx, h⟩; exact ⟨x, hx, kid_iff.1 h⟩
  · rintro ⟨x, hx, h⟩; exact ⟨x, hx, kid_iff.2 h⟩
theorem Ar.kids_ne {ar : List Nd} (h : Ar ar) (p : List UInt8) : (kids ar p).Pairwise fun x y => x.1 ≠ y.1 := by
  unfold kids
  rw [List.pairwise_filterMap]
  have h1 : ar.Pairwise fun x y => x.path ≠ y.path := by
    have := h.nd
    unfold List.Nodup at this
    rwa [List.pairwise_map] at this
  refine h1.imp fun {x y} hxy a ha b hb e => ?_
  obtain ⟨c, k⟩ := a
  obtain ⟨c2, k2⟩ := b
  dsimp only at e
  subst e
  exact hxy ((kid_iff.1 ha).1.trans (kid_iff.1 hb).1.symm)
theorem Ar.start {x : Nd} (hx : x.path = []) : Ar [x] where
  rt := ⟨x, rfl, hx⟩
  nd := by simp
  cl := fun y hy q c e => by
    rw [List.mem_singleton] at hy
    subst hy
    rw [hx] at e
    simp at e
/-- A place more. -/
theorem Ar.add {ar : List Nd} (h : Ar ar) {x : Nd} (hx : x ∈ ar) {c : UInt8} (hno : ∀ y ∈ ar, y.path ≠ x.path ++ [c]) (b m : Nat) : Ar (ar ++ [⟨x.path ++ [c], b, m⟩]) where
  rt := by
    obtain ⟨r, rest, rfl, e⟩ := h.root
    exact ⟨r, rfl, e⟩
  nd := by
    rw [List.map_append, List.nodup_append]
    refine ⟨h.nd, by simp, fun p hp q hq e => ?_⟩
    obtain ⟨y, hy, rfl⟩ := List.mem_map.1 hp
    simp at hq
    exact hno y hy (e.trans hq)
  cl := fun y hy q c2 e => by
    rcases List.mem_append.1 hy with hy | hy
    · obtain ⟨z, hz, e2⟩ := h.cl y hy q c2 e
      exact ⟨z, List.mem_append.2 (.inl hz), e2⟩
    · rw [List.mem_singleton] at hy
      subst hy
      have : x.path = q := (List.append_inj' (show x.path ++ [c] = q ++ [c2] from e) rfl).1
      exact ⟨x, List.mem_append.2 (.inl hx), this⟩
theorem Ar.kids_new {ar : List Nd} (h : Ar ar) {q : List UInt8} (hno : ∀ y ∈ ar, y.path ≠ q) : kids ar q = [] := by
  rw [List.eq_nil_iff_forall_not_mem]
  rintro ⟨c, b⟩ hm
  obtain ⟨x, hx, e, _⟩ := kids_mem.1 hm
  obtain ⟨y, hy, e2⟩ := h.cl x hx q c e
  exact hno y hy e2
/-! ### The words' numbers -/
def wnoG : List (List UInt8) → List UInt8 → Int → Int
  | [], _, _ => -1
  | u :: l, p, i => if u = p then i else wnoG l p (i + 1)
def wno (W : List (List UInt8)) (p : List UInt8) : Int := wnoG W p 0
theorem wnoG_snoc : ∀ (W : List (List UInt8)) (u p : List UInt8) (i : Int), wnoG (W ++ [u]) p i = if p ∈ W then wnoG W p i else if u = p then i + W.length else -1
  | [], u, p, i => by simp [wnoG]
  | v :: W, u, p, i => by
    rw [List.cons_append]
    unfold wnoG
    by_cases h : v = p
    · rw [if_pos h, if_pos (by rw [h]; exact List.mem_cons_self)]
      simp [h]
    · rw [if_neg h, wnoG_snoc W u p (i + 1)]
      have hm : p ∈ v :: W ↔ p ∈ W := by
        rw [List.mem_cons]
        exact ⟨fun hh => hh.resolve_left (fun e => h e.symm), .inr⟩
      by_cases hp : p ∈ W
      · rw [if_pos hp, if_pos (hm.2 hp), if_neg h]
      · rw [if_neg hp, if_neg (fun hh => hp (hm.1 hh)), List.length_cons]
        split
        · push_cast; omega
        · rfl
theorem wno_snoc (W : List (List UInt8)) (u p : List UInt8) : wno (W ++ [u]) p = if p ∈ W then wno W p else if u = p then (W.length : Int) else -1 := by
  unfold wno
  rw [wnoG_snoc]
  split
  · rfl
  · split
    · omega
    · rfl
theorem wnoG_spec : ∀ (W : List (List UInt8)) (p : List UInt8) (i : Int), (wnoG W p i = -1 ∧ p ∉ W) ∨ ∃ k : Nat, wnoG W p i = i + k ∧ W[k]? = some p
  | [], p, i => .inl ⟨rfl, by simp⟩
  | v :: W, p, i => by
    unfold wnoG
    by_cases h : v = p
    · rw [if_pos h]
      exact .inr ⟨0, by omega, by rw [h]; rfl⟩
    · rw [if_neg h]
      rcases wnoG_spec W p (i + 1) with ⟨h1, h2⟩ | ⟨k, h1, h2⟩
      · refine .inl ⟨h1, fun hm => ?_⟩
        rcases List.mem_cons.1 hm with e | hm
        · exact h e.symm
        · exact h2 hm
      · exact .inr ⟨k + 1, by rw [h1]; push_cast; omega, by rw [List.getElem?_cons_succ]; exact h2⟩
theorem wno_spec (W : List (List UInt8)) (p : List UInt8) : (wno W p = -1 ∧ p ∉ W) ∨ ∃ k : Nat, wno W p = k ∧ W[k]? = some p := by
  rcases wnoG_spec W p 0 with h | ⟨k, h1, h2⟩
  · exact .inl h
  · exact .inr ⟨k, by unfold wno; omega, h2⟩
theorem nodup_at {W : List (List UInt8)} (h : W.Nodup) {i j : Nat} {p : List UInt8} (hi : W[i]? = some p) (hj : W[j]? = some p) : i = j := by
  obtain ⟨g1, e1⟩ := List.getElem?_eq_some_iff.1 hi
  obtain ⟨g2, e2⟩ := List.getElem?_eq_some_iff.1 hj
  apply Classical.byContradiction
  intro hne
  have := List.pairwise_iff_getElem.1 h
  rcases Nat.lt_or_gt_of_ne hne with hlt | hlt
  · exact this i j g1 g2 hlt (by rw [e1, e2])
  · exact this j i g2 g1 hlt (by rw [e1, e2])
theorem wno_at {W : List (List UInt8)} (h : W.Nodup) {k : Nat} {p : List UInt8} (hk : W[k]? = some p) : wno W p = k := by
  rcases wno_spec W p with ⟨_, h2⟩ | ⟨j, h1, h2⟩
  · exact absurd (List.mem_of_getElem? hk) h2
  · rw [h1, nodup_at h hk h2]
/-! ### The words that begin with a text -/
def numG : List (List UInt8) → List UInt8 → Int → List Int
  | [], _, _ => []
  | u :: l, p, i => if p <+: u then i :: numG l p (i + 1) else numG l p (i + 1)
def numU (W : List (List UInt8)) (p : List UInt8) : List Int := numG W p 0
theorem numG_mem : ∀ {W : List (List UInt8)} {p : List UInt8} {i x : Int}, x ∈ numG W p i ↔ ∃ (k : Nat) (u : List UInt8), W[k]? = some u ∧ p <+: u ∧ x = i + k
  | [], p, i, x => by simp [numG]
  | v :: W, p, i, x => by
    have ih := numG_mem (W := W) (p := p) (i := i + 1) (x := x)
    have key : (∃ (k : Nat) (u : List UInt8), (v :: W)[k]? = some u ∧ p <+: u ∧ x = i + k) ↔ (p <+: v ∧ x = i) ∨ ∃ (k : Nat) (u : List UInt8), W[k]? = some u ∧ p <+: u ∧ x = i + 1 + k := by
      constructor
      · rintro ⟨k, u, h1, h2, h3⟩
        cases k with
        | zero =>
          simp at h1
          subst h1
          exact .inl ⟨h2, by omega⟩
        | succ k =>
          rw [List.getElem?_cons_succ] at h1
          exact .inr ⟨k, u, h1, h2, by push_cast at h3; omega⟩
      · rintro (⟨h1, h2⟩ | ⟨k, u, h1, h2, h3⟩)
        · exact ⟨0, v, rfl, h1, by omega⟩
        · exact ⟨k + 1, u, by rw [List.getElem?_cons_succ]; exact h1, h2, by push_cast; omega⟩
    rw [key]
    unfold numG
    split
    · rename_i h
      rw [List.mem_cons, ih]
      exact ⟨fun hh => hh.elim (fun e => .inl ⟨h, e⟩) .inr, fun hh => hh.elim (fun e => .inl e.2) .inr⟩
    · rename_i h
      rw [ih]
      exact ⟨.inr, fun hh => hh.elim (fun e => absurd e.1 h) id⟩
theorem numU_mem {W : List (List UInt8)} {p : List UInt8} {x : Int} : x ∈ numU W p ↔ ∃ (k : Nat) (u : List UInt8), W[k]? = some u ∧ p <+: u ∧ x = k := by
  unfold numU
  rw [numG_mem]
  simp only [Int.zero_add]
theorem numG_up : ∀ (W : List (List UInt8)) (p : List UInt8) (i : Int), (numG W p i).Pairwise (fun x y => x < y) ∧ ∀ x ∈ numG W p i, i ≤ x
  | [], p, i => ⟨List.Pairwise.nil, fun x hx => by cases hx⟩
  | v :: W, p, i => by
    obtain ⟨h1, h2⟩ := numG_up W p (i + 1)
    unfold numG
    split
    · refine ⟨List.pairwise_cons.2 ⟨fun y hy => by have := h2 y hy; omega, h1⟩, fun x hx => ?_⟩
      rcases List.mem_cons.1 hx with e | hx
      · omega
      · have := h2 x hx; omega
    · exact ⟨h1, fun x hx => by have := h2 x hx; omega⟩
theorem numU_up (W : List (List UInt8)) (p : List UInt8) : (numU W p).Pairwise (fun x y => x < y) := (numG_up W p 0).1
theorem numU_nodup (W : List (List UInt8)) (p : List UInt8) : (numU W p).Nodup := (numU_up W p).imp fun h => by omega
theorem numG_len : ∀ (W : List (List UInt8)) (p : List UInt8) (i : Int), (numG W p i).length ≤ W.length
  | [], p, i => Nat.le_refl _
  | v :: W, p, i => by
    have := numG_len W p (i + 1)
    unfold numG
    rw [List.length_cons]
    split
    · rw [List.length_cons]; omega
    · omega
theorem numU_len (W : List (List UInt8)) (p : List UInt8) : (numU W p).length ≤ W.length := numG_len W p 0
/-- What a place and what is behind it have. -/
theorem num_split {ar : List Nd} (h : Ar ar) {W : List (List UInt8)} (hW : W.Nodup) (hin : ∀ u ∈ W, ∃ x ∈ ar, x.path = u) (p : List UInt8) :
    (numU W p).Perm ((if 0 ≤ wno W p then [wno W p] else []) ++ (kids ar p).flatMap fun k => numU W (p ++ [k.1])) := by
  have hown : ∀ x, x ∈ (if 0 ≤ wno W p then [wno W p] else []) ↔ ∃ k : Nat, W[k]? = some p ∧ x = k := fun x => by
    rcases wno_spec W p with ⟨h1, h2⟩ | ⟨k, h1, h2⟩
    · rw [h1, if_neg (by omega)]
      exact ⟨(fun hx => by cases hx), fun ⟨k, hk, _⟩ => absurd (List.mem_of_getElem? hk) h2⟩
    · rw [h1, if_pos (by omega), List.mem_singleton]
      exact ⟨fun e => ⟨k, h2, e⟩, fun ⟨j, hj, e⟩ => by rw [e, nodup_at hW h2 hj]⟩
  refine (List.perm_ext_iff_of_nodup (numU_nodup W p) ?_).2 fun x => ?_
  · rw [List.nodup_append]
    refine ⟨by split <;> simp, ?_, fun a ha b hb e => ?_⟩
    · unfold List.Nodup
      rw [List.pairwise_flatMap]
      refine ⟨fun k _ => numU_nodup W _, (h.kids_ne p).imp fun {k1 k2} hne a ha b hb e => ?_⟩
      obtain ⟨i, u, hu, hp1, rfl⟩ := numU_mem.1 ha
      obtain ⟨j, v, hv, hp2, rfl⟩ := numU_mem.1 hb
      have : i = j := by omega
      subst this
      rw [hu] at hv
      injection hv with hv
      subst hv
      have := List.prefix_of_prefix_length_le hp1 hp2 (by simp)
      have := this.eq_of_length (by simp)
      exact hne (by simpa using this)
    · obtain ⟨i, hi, rfl⟩ := (hown a).1 ha
      obtain ⟨k, _, hk⟩ := List.mem_flatMap.1 hb
      obtain ⟨j, v, hv, hp2, rfl⟩ := numU_mem.1 hk
      have : i = j := by omega
      subst this
      rw [hi] at hv
      injection hv with hv
      subst hv
      have := hp2.length_le
      rw [List.length_append, List.length_singleton] at this
      omega
  · rw [List.mem_append, hown, numU_mem, List.mem_flatMap]
    constructor
    · rintro ⟨k, u, hu, hp, rfl⟩
      by_cases e : u = p
      · subst e
        exact .inl ⟨k, hu, rfl⟩
      · right
        obtain ⟨t, ht⟩ := hp
        cases t with
        | nil => exact absurd (by simpa using ht.symm) e
        | cons c t =>
          have hpc : (p ++ [c]) <+: u := ⟨t, by rw [← ht]; simp⟩
          obtain ⟨x, hx, ex⟩ := hin u (List.mem_of_getElem? hu)
          obtain ⟨y, hy, ey⟩ := h.pre (u.length - (p ++ [c]).length) hx (p := p ++ [c]) (by rw [ex]; have := hpc.length_le; omega) (by rw [ex]; exact hpc)
          exact ⟨(c, y.b), kids_mem.2 ⟨y, hy, ey, rfl⟩, numU_mem.2 ⟨k, u, hu, hpc, rfl⟩⟩
    · rintro (⟨k, hk, rfl⟩ | ⟨⟨c, b⟩, _, hm⟩)
      · exact ⟨k, p, hk, List.prefix_refl p, rfl⟩
      · obtain ⟨k, u, hu, hp, rfl⟩ := numU_mem.1 hm
        exact ⟨k, u, hu, List.IsPrefix.trans (List.prefix_append p [c]) hp, rfl⟩
/-- Where there is no such place, no word begins so. -/
theorem num_none {ar : List Nd} (h : Ar ar) {W : List (List UInt8)} (hin : ∀ u ∈ W, ∃ x ∈ ar, x.path = u) {p : List UInt8} (hp : ∀ x ∈ ar, x.path ≠ p) : numU W p = [] := by
  rw [List.eq_nil_iff_forall_not_mem]
  intro x hx
  obtain ⟨k, u, hu, hpu, _⟩ := numU_mem.1 hx
  obtain ⟨y, hy, ey⟩ := hin u (List.mem_of_getElem? hu)
  obtain ⟨z, hz, ez⟩ := h.pre (u.length - p.length) hy (p := p) (by rw [ey]; have := hpu.length_le; omega) (by rw [ey]; exact hpu)
  exact hp z hz ez
end Go.Proofs.Ytagndgidfaladaa

/-
  Hits: which words are near a text, and in which order. No program in sight.
-/
namespace Go.Proofs.Ytagndgidfaladaa
set_option linter.unusedVariables false
structure Ht where
  w : Int
  c : Int
deriving Inhabited, DecidableEq
def leH (a b : Ht) : Bool := decide (a.c < b.c ∨ (a.c = b.c ∧ a.w ≤ b.w))
theorem leH_iff {a b : Ht} : leH a b = true ↔ a.c < b.c ∨ (a.c = b.c ∧ a.w ≤ b.w) := decide_eq_true_iff
theorem leH_anti {a b : Ht} (h1 : leH a b = true) (h2 : leH b a = true) : a = b := by
  rw [leH_iff] at *
  obtain ⟨x, y⟩ := a
  obtain ⟨x2, y2⟩ := b
  dsimp only at *
  have e1 : x = x2 := by omega
  have e2 : y = y2 := by omega
  rw [e1, e2]
section
variable (W : List (List UInt8)) (s : List UInt8) (c : Cs) (most : Int)
def hitO (x : Int) : Option Ht := match W[x.toNat]? with
  | some u => if dist c s u ≤ most then some ⟨x, dist c s u⟩ else none
  | none => none
def hitsF : List Ht := ((numU W []).filterMap (hitO W s c most)).mergeSort leH
theorem hits_perm : (hitsF W s c most).Perm ((numU W []).filterMap (hitO W s c most)) := List.mergeSort_perm _ _
theorem hits_up : (hitsF W s c most).Pairwise fun a b => leH a b = true := List.pairwise_mergeSort (le := leH) (fun a b d h1 h2 => by rw [leH_iff] at *; omega) (fun a b => by rw [Bool.or_eq_true, leH_iff, leH_iff]; omega) _
variable {W s c most}
/-- Whatever order the numbers came in. -/
theorem hits_is {ns : List Int} {L : List Ht} (hn : ns.Perm (numU W [])) (hL : L.Perm (ns.filterMap (hitO W s c most))) (hs : L.Pairwise fun a b => leH a b = true) : L = hitsF W s c most :=
  (hL.trans ((hn.filterMap _).trans (hits_perm W s c most).symm)).eq_of_pairwise (fun a b _ _ h1 h2 => leH_anti h1 h2) hs (hits_up W s c most)
theorem hit_w {x : Int} {h : Ht} (e : hitO W s c most x = some h) : h.w = x := by
  unfold hitO at e
  split at e
  · split at e
    · injection e with e; rw [← e]
    · cases e
  · cases e
theorem hits_ne : (hitsF W s c most).Pairwise fun a b => a.w ≠ b.w := by
  refine ((hits_perm W s c most).pairwise_iff (fun {a b} h e => h e.symm)).2 ?_
  rw [List.pairwise_filterMap]
  exact (numU_up W []).imp fun {x y} hxy a ha b hb e => by rw [hit_w ha, hit_w hb] at e; omega
theorem hits_lt : (hitsF W s c most).Pairwise fun a b => a.c < b.c ∨ (a.c = b.c ∧ a.w < b.w) :=
  ((hits_up W s c most).and hits_ne).imp fun {a b} ⟨h1, h2⟩ => by rw [leH_iff] at h1; omega
/-- How often a word's number is among some hits. -/
def cntW (l : List Ht) (x : Int) : Nat := (l.filter fun h => decide (h.w = x)).length
/-- All of them together are all hits. -/
def cntS (l : List Ht) : Nat → Nat
  | 0 => 0
  | n + 1 => cntS l n + cntW l n
end
/-! ### The best ones -/
def bestF (l : List Ht) : List Ht := match l with
  | [] => []
  | h :: t => (h :: t).filter fun x => decide (x.c ≤ h.c)
def fstN (l : List Ht) : Nat := match l with
  | [] => 0
  | h :: t => ((h :: t).filter fun x => decide (x.c = h.c)).length
theorem filter_front {l : List Ht} {d : Int} (h : l.Pairwise fun a b => a.c ≤ b.c) : l.filter (fun x => decide (x.c ≤ d)) = l.take (l.filter fun x => decide (x.c ≤ d)).length := by
  induction l with
  | nil => rfl
  | cons y l ih =>
    obtain ⟨h1, h2⟩ := List.pairwise_cons.1 h
    rw [List.filter_cons]
    by_cases e : y.c ≤ d
    · rw [if_pos (decide_eq_true e), List.length_cons, List.take_succ_cons, ← ih h2]
    · rw [if_neg (by rw [decide_eq_true_eq]; exact e)]
      have : l.filter (fun x => decide (x.c ≤ d)) = [] := List.filter_eq_nil_iff.2 fun z hz => by
        rw [decide_eq_true_eq]
        have := h1 z hz
        omega
      rw [this]
      rfl
theorem best_take {l : List Ht} (h : l.Pairwise fun a b => a.c ≤ b.c) : bestF l = l.take (fstN l) ∧ (bestF l).length = fstN l := by
  cases l with
  | nil => exact ⟨rfl, rfl⟩
  | cons y l =>
    have e : ((y :: l).filter fun x => decide (x.c = y.c)) = (y :: l).filter fun x => decide (x.c ≤ y.c) := by
      refine List.filter_congr fun x hx => ?_
      rw [decide_eq_decide]
      rcases List.mem_cons.1 hx with e | hx
      · subst e; omega
      · have := (List.pairwise_cons.1 h).1 x hx; omega
    have e2 : fstN (y :: l) = ((y :: l).filter fun x => decide (x.c ≤ y.c)).length := by
      show ((y :: l).filter fun x => decide (x.c = y.c)).length = _
      rw [e]
    rw [e2]
    exact ⟨filter_front h, rfl⟩
theorem hits_le {W : List (List UInt8)} {s : List UInt8} {c : Cs} {most : Int} : (hitsF W s c most).Pairwise fun a b => a.c ≤ b.c := hits_lt.imp fun h => by omega
/-! ### A greater limit -/
end Go.Proofs.Ytagndgidfaladaa

/-
  Words that are right; words turned round, and one more. No program in sight.
-/
namespace Go.Proofs.Ytagndgidfaladaa
set_option linter.unusedVariables false
def newG : List (List UInt8) → List (List UInt8) → Int
  | _, [] => 0
  | seen, u :: l => if u = [] then 2 else if 40 < u.length then 3 else if u ∈ seen then 70 else newG (seen ++ [u]) l
def newF (W : List (List UInt8)) : Int := if 1000 < W.length then 5 else newG [] W
theorem newG_zero : ∀ {seen l : List (List UInt8)}, newG seen l = 0 ↔ (∀ u ∈ l, u ≠ [] ∧ u.length ≤ 40 ∧ u ∉ seen) ∧ l.Nodup
  | seen, [] => ⟨fun _ => ⟨(fun u hu => by cases hu), List.Pairwise.nil⟩, fun _ => rfl⟩
  | seen, u :: l => by
    unfold newG
    rw [List.nodup_cons]
    by_cases h1 : u = []
    · rw [if_pos h1]
      exact ⟨fun e => absurd e (by decide), fun e => absurd h1 (e.1 u List.mem_cons_self).1⟩
    · rw [if_neg h1]
      by_cases h2 : 40 < u.length
      · rw [if_pos h2]
        exact ⟨fun e => absurd e (by decide), fun e => by have := (e.1 u List.mem_cons_self).2.1; omega⟩
      · rw [if_neg h2]
        by_cases h3 : u ∈ seen
        · rw [if_pos h3]
          exact ⟨fun e => absurd e (by decide), fun e => absurd h3 (e.1 u List.mem_cons_self).2.2⟩
        · rw [if_neg h3, newG_zero]
          constructor
          · rintro ⟨g1, g2⟩
            refine ⟨fun v hv => ?_, fun hm => ?_, g2⟩
            · rcases List.mem_cons.1 hv with e | hv
              · subst e; exact ⟨h1, by omega, h3⟩
              · have := g1 v hv
                exact ⟨this.1, this.2.1, fun hs => this.2.2 (List.mem_append.2 (.inl hs))⟩
            · exact (g1 u hm).2.2 (by simp)
          · rintro ⟨g1, g2, g3⟩
            refine ⟨fun v hv => ?_, g3⟩
            have := g1 v (List.mem_cons_of_mem _ hv)
            refine ⟨this.1, this.2.1, fun hs => ?_⟩
            rcases List.mem_append.1 hs with hs | hs
            · exact this.2.2 hs
            · rw [List.mem_singleton] at hs
              subst hs
              exact g2 hv
structure WsOk (W : List (List UInt8)) : Prop where
  len : W.length ≤ 1000
  wd : ∀ u ∈ W, u ≠ [] ∧ u.length ≤ 40
  nd : W.Nodup
theorem newF_zero {W : List (List UInt8)} : newF W = 0 ↔ WsOk W := by
  unfold newF
  split
  · exact ⟨fun e => absurd e (by decide), fun e => by have := e.len; omega⟩
  · rw [newG_zero]
    exact ⟨fun ⟨h1, h2⟩ => ⟨by omega, fun u hu => ⟨(h1 u hu).1, (h1 u hu).2.1⟩, h2⟩, fun h => ⟨fun u hu => ⟨(h.wd u hu).1, (h.wd u hu).2, by simp⟩, h.nd⟩⟩
section
variable {W : List (List UInt8)} {s : List UInt8} {c : Cs} {most : Int}
theorem numU_all : ∀ (W : List (List UInt8)), (numU W []).length = W.length := by
  have : ∀ (W : List (List UInt8)) (i : Int), (numG W [] i).length = W.length := by
    intro W
    induction W with
    | nil => intro i; rfl
    | cons u W ih =>
      intro i
      unfold numG
      rw [if_pos List.nil_prefix, List.length_cons, List.length_cons, ih]
  exact fun W => this W 0
end
end Go.Proofs.Ytagndgidfaladaa

/-
  The tree of words in memory: a cell pair and a map for each place.
-/
namespace Go.Proofs.Ytagndgidfaladaa
open Go.RowKit Eng
set_option linter.unusedVariables false
set_option linter.unusedSimpArgs false
set_option maxHeartbeats 8000000
attribute [local irreducible] SC SQ J Qt Calls Iterates LSub FSub
abbrev ptrV (b : Nat) : Value := .pointer (some ⟨b, 0, none⟩)
abbrev strC (u : List UInt8) : List Value := [strV u]
def kvs (ar : List Nd) (p : List UInt8) : List (Int × Value) := (kids ar p).map fun k => ((k.1.toNat : Int), ptrV k.2)
abbrev ndC (W : List (List UInt8)) (x : Nd) : List Value := [.int .i64 (wno W x.path), .map (some x.m)]
def ndHA (TN : Nat) (ar : List Nd) (W : List (List UInt8)) (x : Nd) : List HA := [.cells x.b TN (ndC W x), haMap x.m .u8 (kvs ar x.path)]
def arHA (TN : Nat) (ar : List Nd) (W : List (List UInt8)) : List HA := ar.flatMap (ndHA TN ar W)
theorem mlk_some : ∀ {M : List (Int × Value)} {k : Int} {v : Value}, (M.Pairwise fun a b => a.1 ≠ b.1) → (k, v) ∈ M → mlk M k = some v
  | (a, u) :: M, k, v, hp, hm => by
    obtain ⟨h1, h2⟩ := List.pairwise_cons.1 hp
    unfold mlk
    rcases List.mem_cons.1 hm with e | hm
    · injection e with e1 e2
      rw [if_pos e1.symm, e2]
    · rw [if_neg (h1 _ hm)]
      exact mlk_some h2 hm
theorem mlk_none : ∀ {M : List (Int × Value)} {k : Int}, (∀ x ∈ M, x.1 ≠ k) → mlk M k = none
  | [], k, _ => rfl
  | (a, u) :: M, k, h => by
    unfold mlk
    rw [if_neg (h _ List.mem_cons_self)]
    exact mlk_none fun x hx => h x (List.mem_cons_of_mem _ hx)
theorem mset_new : ∀ {M : List (Int × Value)} {k : Int} {v : Value}, (∀ x ∈ M, x.1 ≠ k) → mset M k v = M ++ [(k, v)]
  | [], k, v, _ => rfl
  | (a, u) :: M, k, v, h => by
    unfold mset
    rw [if_neg (h _ List.mem_cons_self), mset_new fun x hx => h x (List.mem_cons_of_mem _ hx)]
    rfl
theorem byte_inj {a b : UInt8} (h : (a.toNat : Int) = b.toNat) : a = b := UInt8.toNat_inj.1 (by omega)
theorem kvs_ne {ar : List Nd} (h : Ar ar) (p : List UInt8) : (kvs ar p).Pairwise fun a b => a.1 ≠ b.1 := by
  unfold kvs
  rw [List.pairwise_map]
  exact (h.kids_ne p).imp fun {a b} hne e => hne (byte_inj e)
theorem kvs_get {ar : List Nd} (h : Ar ar) {p : List UInt8} {c : UInt8} {y : Nd} (hy : y ∈ ar) (e : y.path = p ++ [c]) : mlk (kvs ar p) c.toNat = some (ptrV y.b) :=
  mlk_some (kvs_ne h p) (List.mem_map.2 ⟨(c, y.b), kids_mem.2 ⟨y, hy, e, rfl⟩, rfl⟩)
theorem kvs_no {ar : List Nd} {p : List UInt8} {c : UInt8} (hno : ∀ y ∈ ar, y.path ≠ p ++ [c]) : ∀ x ∈ kvs ar p, x.1 ≠ (c.toNat : Int) := fun x hx e => by
  obtain ⟨⟨c2, b⟩, hk, rfl⟩ := List.mem_map.1 hx
  obtain ⟨y, hy, ey, _⟩ := kids_mem.1 hk
  have := byte_inj e
  dsimp only at this
  subst this
  exact hno y hy ey
theorem kvs_add (ar : List Nd) (p q : List UInt8) (c : UInt8) (b m : Nat) : kvs (ar ++ [⟨q ++ [c], b, m⟩]) p = kvs ar p ++ if q = p then [((c.toNat : Int), ptrV b)] else [] := by
  unfold kvs
  rw [kids_add, List.map_append]
  congr 1
  split <;> rfl
/-- One place, and all others. -/
theorem arHA_at (TN : Nat) {ar : List Nd} (W : List (List UInt8)) {x : Nd} {pre post : List Nd} (e : ar = pre ++ x :: post) : (arHA TN ar W).Perm (ndHA TN ar W x ++ (pre.flatMap (ndHA TN ar W) ++ post.flatMap (ndHA TN ar W))) := by
  have : arHA TN ar W = pre.flatMap (ndHA TN ar W) ++ (ndHA TN ar W x ++ post.flatMap (ndHA TN ar W)) := by
    unfold arHA
    rw [show ar.flatMap (ndHA TN ar W) = (pre ++ x :: post).flatMap (ndHA TN ar W) by rw [← e], List.flatMap_append, List.flatMap_cons]
  rw [this, ← List.append_assoc, ← List.append_assoc]
  exact List.Perm.append_right _ List.perm_append_comm
theorem ndHA_same (TN : Nat) {ar ar' : List Nd} {W W' : List (List UInt8)} {l : List Nd} (h : ∀ y ∈ l, kvs ar' y.path = kvs ar y.path ∧ wno W' y.path = wno W y.path) : l.flatMap (ndHA TN ar' W') = l.flatMap (ndHA TN ar W) := by
  induction l with
  | nil => rfl
  | cons y l ih =>
    rw [List.flatMap_cons, List.flatMap_cons, ih fun z hz => h z (List.mem_cons_of_mem _ hz)]
    obtain ⟨h1, h2⟩ := h y List.mem_cons_self
    congr 1
    unfold ndHA ndC
    rw [h1, h2]
theorem Ar.others {ar : List Nd} (h : Ar ar) {x : Nd} {pre post : List Nd} (e : ar = pre ++ x :: post) : (∀ y ∈ pre, y.path ≠ x.path) ∧ ∀ y ∈ post, y.path ≠ x.path := by
  have h1 := h.nd
  rw [e, List.map_append, List.map_cons, List.nodup_append] at h1
  refine ⟨fun y hy e2 => h1.2.2 _ (List.mem_map.2 ⟨y, hy, rfl⟩) _ List.mem_cons_self e2, fun y hy e2 => ?_⟩
  have := (List.nodup_cons.1 h1.2.1).1
  exact this (List.mem_map.2 ⟨y, hy, e2⟩)
/-- A place more behind x. -/
theorem arHA_add (TN : Nat) {ar : List Nd} (h : Ar ar) (W : List (List UInt8)) {x : Nd} {pre post : List Nd} (e : ar = pre ++ x :: post) {c : UInt8} (hno : ∀ y ∈ ar, y.path ≠ x.path ++ [c]) (hW : x.path ++ [c] ∉ W) (b m : Nat) :
    (arHA TN (ar ++ [⟨x.path ++ [c], b, m⟩]) W).Perm (.cells x.b TN (ndC W x) :: haMap x.m .u8 (mset (kvs ar x.path) c.toNat (ptrV b)) :: .cells b TN [.int .i64 (-1), .map (some m)] :: haMap m .u8 [] :: (pre.flatMap (ndHA TN ar W) ++ post.flatMap (ndHA TN ar W))) := by
  obtain ⟨ho1, ho2⟩ := h.others e
  have hxm : x ∈ ar := by rw [e]; simp
  have hp := arHA_at TN (ar := ar ++ [⟨x.path ++ [c], b, m⟩]) W (x := x) (pre := pre) (post := post ++ [⟨x.path ++ [c], b, m⟩]) (by rw [e]; simp)
  have hk : ∀ y : Nd, y.path ≠ x.path → kvs (ar ++ [⟨x.path ++ [c], b, m⟩]) y.path = kvs ar y.path := fun y hy => by rw [kvs_add, if_neg (fun e => hy e.symm), List.append_nil]
  have e1 := ndHA_same TN (ar := ar) (ar' := ar ++ [⟨x.path ++ [c], b, m⟩]) (W := W) (W' := W) (l := pre) fun y hy => ⟨hk y (ho1 y hy), rfl⟩
  have e2 := ndHA_same TN (ar := ar) (ar' := ar ++ [⟨x.path ++ [c], b, m⟩]) (W := W) (W' := W) (l := post) fun y hy => ⟨hk y (ho2 y hy), rfl⟩
  have e3 : kvs (ar ++ [⟨x.path ++ [c], b, m⟩]) x.path = mset (kvs ar x.path) c.toNat (ptrV b) := by rw [kvs_add, if_pos rfl, mset_new (kvs_no hno)]
  have e4 : kvs (ar ++ [⟨x.path ++ [c], b, m⟩]) (x.path ++ [c]) = [] := by
    rw [kvs_add, if_neg (by simp), List.append_nil]
    unfold kvs
    rw [h.kids_new hno]
    rfl
  have e5 : wno W (x.path ++ [c]) = -1 := by
    rcases wno_spec W (x.path ++ [c]) with ⟨h1, _⟩ | ⟨k, _, hk⟩
    · exact h1
    · exact absurd (List.mem_of_getElem? hk) hW
  rw [List.flatMap_append, e1, e2] at hp
  have e6 : [(⟨x.path ++ [c], b, m⟩ : Nd)].flatMap (ndHA TN (ar ++ [⟨x.path ++ [c], b, m⟩]) W) = [.cells b TN [.int .i64 (-1), .map (some m)], haMap m .u8 []] := by
    rw [List.flatMap_cons, List.flatMap_nil, List.append_nil]
    unfold ndHA ndC
    dsimp only
    rw [e4, e5]
  rw [e6] at hp
  refine hp.trans ?_
  unfold ndHA
  rw [e3]
  refine List.Perm.cons _ (List.Perm.cons _ ?_)
  rw [← List.append_assoc]
  exact List.perm_append_comm (l₂ := [_, _])
/-- A word more, at x. -/
theorem arHA_word (TN : Nat) {ar : List Nd} (h : Ar ar) {W : List (List UInt8)} {x : Nd} {pre post : List Nd} (e : ar = pre ++ x :: post) (hW : x.path ∉ W) :
    (arHA TN ar (W ++ [x.path])).Perm (.cells x.b TN [.int .i64 W.length, .map (some x.m)] :: haMap x.m .u8 (kvs ar x.path) :: (pre.flatMap (ndHA TN ar W) ++ post.flatMap (ndHA TN ar W))) := by
  obtain ⟨ho1, ho2⟩ := h.others e
  have hp := arHA_at TN (W ++ [x.path]) e
  have hk : ∀ y : Nd, y.path ≠ x.path → wno (W ++ [x.path]) y.path = wno W y.path := fun y hy => by
    rw [wno_snoc]
    by_cases hm : y.path ∈ W
    · rw [if_pos hm]
    · rw [if_neg hm, if_neg (fun e => hy e.symm)]
      rcases wno_spec W y.path with ⟨h1, _⟩ | ⟨k, _, hk⟩
      · exact h1.symm
      · exact absurd (List.mem_of_getElem? hk) hm
  have e1 := ndHA_same TN (ar := ar) (ar' := ar) (W := W) (W' := W ++ [x.path]) (l := pre) fun y hy => ⟨rfl, hk y (ho1 y hy)⟩
  have e2 := ndHA_same TN (ar := ar) (ar' := ar) (W := W) (W' := W ++ [x.path]) (l := post) fun y hy => ⟨rfl, hk y (ho2 y hy)⟩
  rw [e1, e2] at hp
  have e3 : wno (W ++ [x.path]) x.path = W.length := by rw [wno_snoc, if_neg hW, if_pos rfl]
  unfold ndHA ndC at hp ⊢
  rw [e3] at hp
  exact hp
end Go.Proofs.Ytagndgidfaladaa

/-
  The lexicon: slices.Clone, newNode.
-/
namespace Go.Proofs.Ytagndgidfaladaa
open Go.RowKit Eng
set_option linter.unusedVariables false
set_option linter.unusedSimpArgs false
set_option maxHeartbeats 8000000
attribute [local irreducible] SC SQ J Qt Calls Iterates LSub FSub
theorem clone_c {w : World} {A : Option Addr} {c : Nat} {W : List (List UInt8)} (hR : RS w 1 strC A W) (hs : Sl A W.length c) (hmax : W.length ≤ 1000000) :
    Calls Try.prog 21 #[.slice A W.length c] w fun e w' => ∃ v : Value, True ∧ e = .returned v ∧ St w Cold [.own v 9 1 W.length (W.flatMap strC)] w' := by
  have hre := fun w' (h : RS w' 1 strC A W) => reads_ext (f := strC) (c := c) (fun _ => rfl) (fun _ => rfl) h (fun g => ⟨List.length_eq_zero_iff.1 (hs.nil g).1, (hs.nil g).2⟩)
  cases A with
  | none =>
    obtain ⟨h0, rfl⟩ := hs.nil rfl
    have hW : W = [] := List.length_eq_zero_iff.1 h0
    subst hW
    refine eng_start (n := 8) (args := [.slice none 0 0]) tab tab_ok fns fns_ok [.tmp 2] Try.func21 rfl rfl rfl rfl ?_
    repeat' (first | (refine gJ ?_; first | refine js rfl rfl rfl rfl ?_ | (refine j_qe rfl rfl rfl ?_; refine ⟨_, q_eqlnil rfl rfl rfl rfl rfl, ?_⟩) | (refine gF ?_; first | (refine j_buildSlice rfl rfl rfl rfl rfl rfl rfl rfl rfl rfl rfl rfl ?_; intro b) | (refine j_append rfl rfl rfl rfl rfl rfl rfl rfl rfl rfl rfl (by (repeat constructor)) (by (repeat constructor)) (by rfl) (by rfl) (by omega) (fun _ => by (repeat constructor)) ?_; intro v))) | (refine gSC ?_; first | refine sc_mv rfl ?_ | refine sc_q rfl ?_ | refine sc_region ?_) | (refine gSQ ?_; first | refine sq_go rfl ?_ | refine sq_mv rfl ?_ | refine sq_ende (by first | exact .inl rfl | exact .inr rfl) rfl rfl ⟨_, (RVs.cons (RV.tmp rfl) (RVs.nil)), ?_⟩) | refine j_nil ?_ | ((refine sc_cond rfl ?_ ?_) <;> intro hc <;> (first | exact absurd hc (by decide) | ((try simp only [engHC] at hc) <;> first | (exfalso; omega) | exact absurd trivial hc | skip))))
    intro w' hS
    exact ⟨_, trivial, rfl, hS.own_nil⟩
  | some x =>
    generalize hn : W.length = n at *
    refine eng_start (n := 8) (args := [.slice (some x) n c]) tab tab_ok fns fns_ok [.tmp 2] Try.func21 rfl rfl rfl rfl ?_
    repeat' (first | (refine gJ ?_; first | refine js rfl rfl rfl rfl ?_ | (refine j_qe rfl rfl rfl ?_; refine ⟨_, q_eqlsome rfl rfl rfl rfl rfl, ?_⟩) | (refine gF ?_; refine j_build0 rfl rfl rfl rfl rfl rfl ?_; intro b8) | (refine gF ?_; refine j_appendS (cs := W.flatMap strC) (n := 0) (A := some x) (k := n) (c := c) rfl rfl rfl rfl rfl rfl rfl rfl rfl rfl rfl (fun w' hs => hre w' (hR.st hs)) (by (repeat constructor)) (by omega) (fun _ => by (repeat constructor)) ?_; intro v9) | (refine gF ?_; first | (refine j_buildSlice rfl rfl rfl rfl rfl rfl rfl rfl rfl rfl rfl rfl ?_; intro b) | (refine j_append rfl rfl rfl rfl rfl rfl rfl rfl rfl rfl rfl (by (repeat constructor)) (by (repeat constructor)) (by rfl) (by rfl) (by omega) (fun _ => by (repeat constructor)) ?_; intro v))) | (refine gSC ?_; first | refine sc_mv rfl ?_ | refine sc_q rfl ?_ | refine sc_region ?_) | (refine gSQ ?_; first | refine sq_go rfl ?_ | refine sq_mv rfl ?_ | refine sq_ende (by first | exact .inl rfl | exact .inr rfl) rfl rfl ⟨_, (RVs.cons (RV.tmp rfl) (RVs.nil)), ?_⟩) | refine j_nil ?_ | ((refine sc_cond rfl ?_ ?_) <;> intro hc <;> (first | exact absurd hc (by decide) | ((try simp only [engHC] at hc) <;> first | (exfalso; omega) | exact absurd trivial hc | skip))))
    intro w' hS
    rw [List.nil_append, Nat.zero_add] at hS
    exact ⟨_, trivial, rfl, hS⟩
theorem newNode_c {w : World} : Calls Try.prog 22 #[] w fun e w' => ∃ bm : Nat × Nat, True ∧ e = .returned (ptrV bm.1) ∧ St w Cold [.cells bm.1 63 [.int .i64 (-1), .map (some bm.2)], haMap bm.2 .u8 []] w' := by
  refine eng_start (n := 4) (args := []) tab tab_ok fns fns_ok [.tmp 0] Try.func22 rfl rfl rfl rfl ?_
  repeat' (first | (refine gJ ?_; first | refine js rfl rfl rfl rfl ?_ | (refine gF ?_; refine j_makeMap .u8 rfl rfl rfl rfl ?_; intro bm) | (refine gF ?_; refine j_box rfl rfl rfl rfl rfl ?_; intro bx) | (refine gF ?_; first | (refine j_box rfl rfl rfl rfl rfl ?_; intro b)) | (refine j_qe rfl rfl rfl ?_; first | refine ⟨_, q_build_struct rfl rfl rfl rfl rfl, ?_⟩ | refine ⟨_, q_build_arr rfl rfl rfl rfl rfl, ?_⟩)) | (refine gSC ?_; first | refine sc_mv rfl ?_ | refine sc_q rfl ?_ | refine sc_region ?_) | (refine gSQ ?_; first | refine sq_go rfl ?_ | refine sq_mv rfl ?_ | refine sq_ende (by first | exact .inl rfl | exact .inr rfl) rfl rfl ⟨_, (RVs.cons (RV.tmp rfl) (RVs.nil)), ?_⟩) | refine j_nil ?_ | ((refine sc_cond rfl ?_ ?_) <;> intro hc <;> (first | exact absurd hc (by decide) | ((try simp only [engHC] at hc) <;> first | (exfalso; omega) | exact absurd trivial hc | skip))))
  intro w' hS
  exact ⟨(bx, bm), trivial, rfl, hS⟩
end Go.Proofs.Ytagndgidfaladaa
