/-
  Own rows: what they read as, and that they are slices.
-/
import Derived.Test.YtmcmmmaffdenjaaEngRow
import Derived.Test.YtmcmmmaffdenjaaEngLaw2
namespace Go.Proofs.Ytmcmmmaffdenjaa
namespace Eng
open Go.RowKit
set_option linter.unusedVariables false
theorem LSub.skip {L L' : List HA} {x : HA} (h : LSub L' L) : LSub L' (x :: L) := by
  obtain ⟨M, hM⟩ := h
  exact ⟨x :: M, (hM.cons x).trans List.perm_middle.symm⟩
theorem LSub.perm {L L' L'' : List HA} (h : LSub L' L) (hp : L'.Perm L'') : LSub L'' L := by
  obtain ⟨M, hM⟩ := h
  exact ⟨M, hM.trans (hp.append_right M)⟩
theorem LSub.right {T U : List HA} : LSub U (T ++ U) := ⟨T, List.perm_append_comm⟩
theorem LSub.left {T U : List HA} : LSub T (T ++ U) := ⟨U, List.Perm.refl _⟩
theorem inL_mem {x : HA} : ∀ {L : List HA}, x ∈ L → InL L x
  | y :: L, h => by
    rcases List.mem_cons.1 h with rfl | h
    · exact InL.here
    · exact InL.there (inL_mem h)
section
variable {C : Cx} {F : Fr} {L : List HA} {K : List KI} {ops : Array Oper}
theorem sc_perm {C : Cx} {c : Code} {K : List KI} {F : Fr} {L L' : List HA} (hp : L.Perm L') (h : SC C c K F L') : SC C c K F L := fun a w hf hs => h a w hf (hs.perm hp)
theorem j_perm {C : Cx} {l : List Oper} {K : List KI} {F : Fr} {L L' : List HA} {ops : Array Oper} (hp : L.Perm L') (h : J C ops false l K F L') : J C ops false l K F L := fun a w hf hs => h a w hf (hs.perm hp)
theorem sc_ownq {c' : Code} {v : Value} {e sz n : Nat} {xs : List Value} (hin : InL L (.own v e sz n xs)) (hn : 0 < n) (h : ∀ ad c, v = .slice (some ad) n c → n ≤ c → SC C c' K F L) : SC C c' K F L := fun a w hf hs => by
  have hA := hs.at hin
  rcases hA.2.2 with ⟨_, h0⟩ | ⟨g, cap, cur, hv, _, _, hnc, _⟩
  · omega
  · exact h _ _ hv hnc a w hf hs
theorem j_ownp {l : List Oper} {v : Value} {e sz n : Nat} {xs : List Value} (hin : InL L (.own v e sz n xs)) (hn : 0 < n) (h : ∀ ad c, v = .slice (some ad) n c → n ≤ c → J C ops false l K F L) : J C ops false l K F L := fun a w hf hs => by
  have hA := hs.at hin
  rcases hA.2.2 with ⟨_, h0⟩ | ⟨g, cap, cur, hv, _, _, hnc, _⟩
  · omega
  · exact h _ _ hv hnc a w hf hs
/-- Whatever its length. -/
theorem sc_owns {c' : Code} {v : Value} {e sz n : Nat} {xs : List Value} (hin : InL L (.own v e sz n xs)) (h : ∀ A c, v = .slice A n c → Sl A n c → SC C c' K F L) : SC C c' K F L := fun a w hf hs => by
  have hA := hs.at hin
  rcases hA.2.2 with ⟨hv, h0⟩ | ⟨g, cap, cur, hv, _, _, hnc, hcm, _⟩
  · subst h0
    exact h _ _ hv ⟨fun _ => ⟨rfl, rfl⟩, Nat.le_refl _, by omega⟩ a w hf hs
  · exact h _ _ hv ⟨fun h => (by cases h), hnc, by unfold maxLen at hcm; omega⟩ a w hf hs
theorem j_owns {l : List Oper} {v : Value} {e sz n : Nat} {xs : List Value} (hin : InL L (.own v e sz n xs)) (h : ∀ A c, v = .slice A n c → Sl A n c → J C ops false l K F L) : J C ops false l K F L := fun a w hf hs => by
  have hA := hs.at hin
  rcases hA.2.2 with ⟨hv, h0⟩ | ⟨g, cap, cur, hv, _, _, hnc, hcm, _⟩
  · subst h0
    exact h _ _ hv ⟨fun _ => ⟨rfl, rfl⟩, Nat.le_refl _, by omega⟩ a w hf hs
  · exact h _ _ hv ⟨fun h => (by cases h), hnc, by unfold maxLen at hcm; omega⟩ a w hf hs
end
section
variable {w0 w : World} {hot : Nat → Prop} {L L' : List HA}
/-- A literal's cells, as a row. -/
theorem st_lit {b e sz n : Nat} {cs : List Value} (hs : St w0 hot L w) (hup : Upd L (.cells b e cs) (.own (.slice (some ⟨b, 0, none⟩) n n) e sz n cs) L') (hlen : cs.length = n * sz) (hn : n ≤ 1000000) : St w0 hot L' w := by
  obtain ⟨M, h1, _⟩ := hup.perm
  have hA := (hs.perm h1).head
  have hfoot : ∀ q, (HA.own (.slice (some ⟨b, 0, none⟩) n n) e sz n cs).foot q → q = b := fun q hq => by
    simp only [HA.foot, Value.ownBlock, Option.some.injEq] at hq
    exact hq.symm
  refine hs.upd hup (Below.refl 0 w) (fun q _ _ => rfl) ⟨fun q hq => by rw [hfoot q hq]; exact hA.1, hlen, .inr ⟨b, n, cs.toArray, rfl, Nat.zero_le _, hA.2, Nat.le_refl _, by unfold maxLen; omega, by simp [hlen], ?_⟩⟩ (fun q hq => .inl (hfoot q hq))
  show cs.take (n * sz) = cs
  rw [← hlen, List.take_length]
theorem sc_lit {C : Cx} {K : List KI} {F : Fr} {c : Code} {b e n : Nat} {cs : List Value} (sz : Nat) (hup : Upd L (.cells b e cs) (.own (.slice (some ⟨b, 0, none⟩) n n) e sz n cs) L') (hlen : cs.length = n * sz) (hn : n ≤ 1000000) (h : SC C c K F L') : SC C c K F L := fun a w hf hs => h a w hf (st_lit hs hup hlen hn)
theorem sq_lit {C : Cx} {K : List KI} {F : Fr} {ex : Exit} {b e n : Nat} {cs : List Value} (sz : Nat) (hup : Upd L (.cells b e cs) (.own (.slice (some ⟨b, 0, none⟩) n n) e sz n cs) L') (hlen : cs.length = n * sz) (hn : n ≤ 1000000) (h : SQ C ex K F L') : SQ C ex K F L := fun a w hf hs => h a w hf (st_lit hs hup hlen hn)
theorem rs_own {α : Type} {f : α → List Value} {sz n c e : Nat} {A : Option Addr} {xs : List Value} {l : List α} (hf : ∀ x, (f x).length = sz) (hs : St w0 hot L w) (hin : InL L (.own (.slice A n c) e sz n xs)) (hn : n = l.length) (hx : xs = l.flatMap f) : RS w sz f A l := by
  subst hn
  subst hx
  have hA := hs.at hin
  rcases hA.2.2 with ⟨hv, h0⟩ | ⟨g, cap, cur, hv, _, hg, hnc, _⟩
  · have : l = [] := List.length_eq_zero_iff.1 h0
    subst this
    exact RS.nil
  · injection hv with h1 _ h3
    subst h1
    subst h3
    intro i x hx
    have hlt := (Array.getElem?_eq_some_iff.1 hg).1
    refine ⟨_, rfl, by rw [block_add]; exact hlt, fun j u hu => ?_⟩
    rw [nth_eq] at hu
    rw [Eng.add_add]
    exact own_cell hs hin (flat_at f sz hf l i x j u hx hu)
theorem sl_own {e sz n c : Nat} {A : Option Addr} {xs : List Value} (hs : St w0 hot L w) (hin : InL L (.own (.slice A n c) e sz n xs)) : Sl A n c := by
  have hA := hs.at hin
  rcases hA.2.2 with ⟨hv, h0⟩ | ⟨g, cap, cur, hv, _, hg, hnc, hcm, _⟩
  · injection hv with h1 _ h3
    subst h1; subst h3; subst h0
    exact ⟨fun _ => ⟨rfl, rfl⟩, Nat.le_refl _, by omega⟩
  · injection hv with h1 _ h3
    subst h1; subst h3
    exact ⟨fun h => (by cases h), hnc, by unfold maxLen at hcm; omega⟩
end
end Eng
end Go.Proofs.Ytmcmmmaffdenjaa
