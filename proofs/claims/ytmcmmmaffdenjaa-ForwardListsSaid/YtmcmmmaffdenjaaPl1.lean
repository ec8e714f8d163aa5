/-
  Ways, plain.
-/
import Derived.Test.YtmcmmmaffdenjaaPl0
namespace Go.Proofs.Ytmcmmmaffdenjaa
set_option linter.unusedVariables false
set_option linter.unusedSimpArgs false
/-- The way of mail. -/
structure Wy where
  pts : List Int
  ords : List Int
  kd : Int
  un : Int
/-- What happens at a point: the way behind it, and whether it ends. -/
def wst (s : Wy) (x : Int × Od) : Wy × Bool :=
  if x.2.idn = 0 then (⟨s.pts ++ [x.1], s.ords, 1, s.un⟩, true)
  else if x.2.kd = 3 then (⟨s.pts ++ [x.1], s.ords, 2, x.2.en⟩, true)
  else if x.2.to ∈ s.pts ++ [x.1] then (⟨s.pts ++ [x.1], s.ords, 3, s.un⟩, true)
  else (⟨s.pts ++ [x.1], s.ords ++ [x.2.idn], s.kd, s.un⟩, false)
/-- The points to which orders lead from a point on. -/
def along (f : Int → Od) : Nat → Int → List (Int × Od)
  | 0, p => [(p, f p)]
  | n + 1, p => (p, f p) :: (if (f p).to = 0 then [] else along f n (f p).to)
def wrun : Wy → List (Int × Od) → Wy × Bool
  | s, [] => (s, false)
  | s, x :: xs => match wst s x with
    | (s', true) => (s', true)
    | (s', false) => wrun s' xs
def way (f : Int → Od) (n : Nat) (p : Int) : Wy := (wrun ⟨[], [], 0, 0⟩ (along f n p)).1
/-- A way from a point on, behind points that have been met. -/
inductive IsW (f : Int → Od) : List Int → Int → List Int → List Int → Int → Int → Prop where
  | here {met : List Int} {p : Int} (h : (f p).idn = 0) : IsW f met p [p] [] 1 0
  | held {met : List Int} {p : Int} (h : (f p).idn ≠ 0) (h3 : (f p).kd = 3) : IsW f met p [p] [] 2 (f p).en
  | back {met : List Int} {p : Int} (h : (f p).idn ≠ 0) (h3 : (f p).kd ≠ 3) (hm : (f p).to ∈ met ++ [p]) : IsW f met p [p] [] 3 0
  | go {met : List Int} {p : Int} {pts ords : List Int} {k u : Int} (h : (f p).idn ≠ 0) (h3 : (f p).kd ≠ 3) (hm : (f p).to ∉ met ++ [p]) (hr : IsW f (met ++ [p]) (f p).to pts ords k u) : IsW f met p (p :: pts) ((f p).idn :: ords) k u
theorem wrun_spec (f : Int → Od) : ∀ (n : Nat) (s : Wy) (p : Int) (s' : Wy), s.un = 0 → wrun s (along f n p) = (s', true) → ∃ pts ords, IsW f s.pts p pts ords s'.kd s'.un ∧ s'.pts = s.pts ++ pts ∧ s'.ords = s.ords ++ ords := by
  intro n
  have one : ∀ (s : Wy) (p : Int) (xs : List (Int × Od)) (s' : Wy), s.un = 0 → wrun s ((p, f p) :: xs) = (s', true) → ((wst s (p, f p)).2 = true ∧ s' = (wst s (p, f p)).1 ∧ ∃ pts ords, IsW f s.pts p pts ords s'.kd s'.un ∧ s'.pts = s.pts ++ pts ∧ s'.ords = s.ords ++ ords) ∨
      ((f p).idn ≠ 0 ∧ (f p).kd ≠ 3 ∧ (f p).to ∉ s.pts ++ [p] ∧ wrun ⟨s.pts ++ [p], s.ords ++ [(f p).idn], s.kd, s.un⟩ xs = (s', true)) := by
    intro s p xs s' hu h
    simp only [wrun] at h
    by_cases h1 : (f p).idn = 0
    · left
      have e : wst s (p, f p) = (⟨s.pts ++ [p], s.ords, 1, s.un⟩, true) := by unfold wst; rw [if_pos h1]
      rw [e] at h ⊢
      injection h with h _
      subst h
      exact ⟨rfl, rfl, [p], [], by show IsW f s.pts p [p] [] 1 s.un; rw [hu]; exact .here h1, rfl, by simp⟩
    · by_cases h3 : (f p).kd = 3
      · left
        have e : wst s (p, f p) = (⟨s.pts ++ [p], s.ords, 2, (f p).en⟩, true) := by unfold wst; rw [if_neg h1, if_pos h3]
        rw [e] at h ⊢
        injection h with h _
        subst h
        exact ⟨rfl, rfl, [p], [], .held h1 h3, rfl, by simp⟩
      · by_cases hm : (f p).to ∈ s.pts ++ [p]
        · left
          have e : wst s (p, f p) = (⟨s.pts ++ [p], s.ords, 3, s.un⟩, true) := by unfold wst; rw [if_neg h1, if_neg h3, if_pos hm]
          rw [e] at h ⊢
          injection h with h _
          subst h
          exact ⟨rfl, rfl, [p], [], by show IsW f s.pts p [p] [] 3 s.un; rw [hu]; exact .back h1 h3 hm, rfl, by simp⟩
        · right
          have e : wst s (p, f p) = (⟨s.pts ++ [p], s.ords ++ [(f p).idn], s.kd, s.un⟩, false) := by unfold wst; rw [if_neg h1, if_neg h3, if_neg hm]
          rw [e] at h
          exact ⟨h1, h3, hm, h⟩
  induction n with
  | zero =>
    intro s p s' hu h
    rcases one s p [] s' hu h with ⟨_, _, h⟩ | ⟨_, _, _, h⟩
    · exact h
    · simp [wrun] at h
  | succ n ih =>
    intro s p s' hu h
    simp only [along] at h
    rcases one s p _ s' hu h with ⟨_, _, h⟩ | ⟨h1, h3, hm, h⟩
    · exact h
    · split at h
      · simp [wrun] at h
      · obtain ⟨pts, ords, g1, g2, g3⟩ := ih ⟨s.pts ++ [p], s.ords ++ [(f p).idn], s.kd, s.un⟩ (f p).to s' hu h
        exact ⟨p :: pts, (f p).idn :: ords, .go h1 h3 hm g1, by rw [g2]; simp, by rw [g3]; simp⟩
theorem nodup_len : ∀ (l keys : List Int), l.Nodup → (∀ q ∈ l, q ∈ keys) → l.length ≤ keys.length
  | [], _, _, _ => Nat.zero_le _
  | x :: l, keys, hn, hs => by
    rw [List.nodup_cons] at hn
    have hx := hs x List.mem_cons_self
    have h1 := nodup_len l (keys.erase x) hn.2 (fun q hq => (List.mem_erase_of_ne (fun e : q = x => hn.1 (e ▸ hq))).2 (hs q (List.mem_cons_of_mem _ hq)))
    rw [List.length_erase_of_mem hx] at h1
    have := List.length_pos_of_mem hx
    simp
    omega
/-- It ends: each point that it goes on from has an order. -/
theorem wrun_ends (f : Int → Od) (keys : List Int) (hk : ∀ p, (f p).idn ≠ 0 → p ∈ keys) (hto : ∀ p, (f p).idn ≠ 0 → (f p).kd ≠ 3 → (f p).to ≠ 0) : ∀ (n : Nat) (s : Wy) (p : Int), s.pts.Nodup → p ∉ s.pts → (∀ q ∈ s.pts, q ∈ keys) → keys.length ≤ s.pts.length + n → (wrun s (along f n p)).2 = true := by
  intro n
  have key : ∀ (s : Wy) (p : Int) (xs : List (Int × Od)), ((f p).idn ≠ 0 → (f p).kd ≠ 3 → (f p).to ∉ s.pts ++ [p] → (wrun ⟨s.pts ++ [p], s.ords ++ [(f p).idn], s.kd, s.un⟩ xs).2 = true) → (wrun s ((p, f p) :: xs)).2 = true := by
    intro s p xs h
    simp only [wrun]
    by_cases h1 : (f p).idn = 0
    · have e : wst s (p, f p) = (⟨s.pts ++ [p], s.ords, 1, s.un⟩, true) := by unfold wst; rw [if_pos h1]
      rw [e]
    · by_cases h3 : (f p).kd = 3
      · have e : wst s (p, f p) = (⟨s.pts ++ [p], s.ords, 2, (f p).en⟩, true) := by unfold wst; rw [if_neg h1, if_pos h3]
        rw [e]
      · by_cases hm : (f p).to ∈ s.pts ++ [p]
        · have e : wst s (p, f p) = (⟨s.pts ++ [p], s.ords, 3, s.un⟩, true) := by unfold wst; rw [if_neg h1, if_neg h3, if_pos hm]
          rw [e]
        · have e : wst s (p, f p) = (⟨s.pts ++ [p], s.ords ++ [(f p).idn], s.kd, s.un⟩, false) := by unfold wst; rw [if_neg h1, if_neg h3, if_neg hm]
          rw [e]
          exact h h1 h3 hm
  have hbound := fun l => nodup_len l keys
  induction n with
  | zero =>
    intro s p hn hp hs hl
    refine key s p [] fun h1 h3 hm => ?_
    exfalso
    have h2 := hbound (s.pts ++ [p]) (by
      rw [List.nodup_append]
      exact ⟨hn, by simp, fun a ha b hb e => hp (by rw [List.mem_singleton] at hb; subst hb; exact e ▸ ha)⟩) (fun q hq => by
      rcases List.mem_append.1 hq with hq | hq
      · exact hs q hq
      · rw [List.mem_singleton] at hq; subst hq; exact hk q h1)
    simp at h2
    omega
  | succ n ih =>
    intro s p hn hp hs hl
    simp only [along]
    refine key s p _ fun h1 h3 hm => ?_
    rw [if_neg (hto p h1 h3)]
    refine ih _ _ ?_ hm ?_ (by simp; omega)
    · show (s.pts ++ [p]).Nodup
      rw [List.nodup_append]
      exact ⟨hn, by simp, fun a ha b hb e => hp (by rw [List.mem_singleton] at hb; subst hb; exact e ▸ ha)⟩
    · intro q hq
      rcases List.mem_append.1 hq with hq | hq
      · exact hs q hq
      · rw [List.mem_singleton] at hq; subst hq; exact hk q h1
end Go.Proofs.Ytmcmmmaffdenjaa
