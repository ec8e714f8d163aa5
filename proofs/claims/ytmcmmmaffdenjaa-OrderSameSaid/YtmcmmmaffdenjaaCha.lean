/-
  forward: changes, Release.
-/
import Derived.Test.YtmcmmmaffdenjaaRes
import Derived.Test.YtmcmmmaffdenjaaSrt
namespace Go.Proofs.Ytmcmmmaffdenjaa
open Go.RowKit Eng
set_option linter.unusedVariables false
set_option linter.unusedSimpArgs false
set_option maxHeartbeats 8000000
attribute [local irreducible] SC SQ J Qt Calls Iterates
section
variable {C : Cx} {F : Fr} {L : List HA} {o : Oper} {K : List KI} {ops : Array Oper} {m : Bool} {rest : List Oper}
attribute [local semireducible] SC J
theorem j_insert {t kt et : Nat} {x y z : Operand} {ti tk : TI} {ik : IntKind} {b : Nat} {M : List (Int × Value)} {k : Int} {v : Value} {L' : List HA} (ho : o.op = .insert t x y z) (hg : o.guard = none) (hd : o.dst = none) (ht : tget C.tab t = some ti)
    (hk : ti.kind = .map kt et) (htk : tget C.tab kt = some tk) (hkk : tk.kind = .int ik) (hx : ev F x = some (.map (some b))) (hy : ev F y = some (.int ik k)) (hz : ev F z = some v) (hup : Upd L (haMap b ik M) (haMap b ik (mset M k v)) L')
    (h : J C ops false rest K F L') : J C ops false (o :: rest) K F L := by
  intro a w hf hs
  obtain ⟨N, hp1, hp2⟩ := hup.perm
  have hA := (hs.perm hp1).head
  obtain ⟨ob, h1, h2⟩ := hA.2.1
  obtain ⟨ob', hr, hM'⟩ := run_mapUpdate (C.ok.get ht) hk (C.ok.get htk) hkk h1 h2 k v
  have hrun : (execOp a.eval o).run C.P w = .ok .skip { w with heap := w.heap.setIfInBounds b ob' } := by
    simp [execOp, ho, hf.ev hx, hf.ev hy, hf.ev hz, hr]
  refine wpListIn_run (by simp [Region.wanted, hg]) (wpIn_skip_ hrun ?_)
  rw [hd]
  have hlt := (hA.1 b rfl).2
  refine h a _ (hf.put_none undef) (hs.upd hup ⟨rfl, rfl, rfl, by simp, fun k hk => by omega⟩ ?_ (haMap_holds (hA.1 b rfl).1 (by simp [hlt]) hM') (fun c hc => .inl hc))
  intro c hc hne
  simp only [Array.getElem?_setIfInBounds]
  rw [if_neg (fun e => hne e.symm)]
end
def chg (d : Int) (o : Od) : List Int := (if d < o.st then [o.st] else []) ++ (if o.kd ≠ 1 ∧ d ≤ o.en ∧ o.en < 730484 then [o.en + 1] else [])
def chgL (l : List Od) (d : Int) : List Int := d :: l.flatMap (chg d)
def keysOf (l : List Int) : List Int := (metM l).map (·.1)
theorem mem_mset_keys (M : List (Int × Value)) (k : Int) (v : Value) (x : Int) : x ∈ (mset M k v).map (·.1) ↔ x = k ∨ x ∈ M.map (·.1) := by
  induction M with
  | nil => simp [mset]
  | cons q M ih =>
    obtain ⟨q1, q2⟩ := q
    simp only [mset]
    split
    · rename_i h; subst h; simp
    · simp only [List.map_cons, List.mem_cons, ih]
      constructor
      · rintro (h | h | h) <;> simp [h]
      · rintro (h | h | h) <;> simp [h]
theorem mset_keys_nodup (M : List (Int × Value)) (k : Int) (v : Value) (h : (M.map (·.1)).Nodup) : ((mset M k v).map (·.1)).Nodup := by
  induction M with
  | nil => simp [mset]
  | cons q M ih =>
    obtain ⟨q1, q2⟩ := q
    rw [List.map_cons, List.nodup_cons] at h
    simp only [mset]
    split
    · rw [List.map_cons, List.nodup_cons]; exact h
    · rename_i hne
      rw [List.map_cons, List.nodup_cons]
      refine ⟨fun hm => ?_, ih h.2⟩
      rcases (mem_mset_keys M k v q1).1 hm with e | e
      · exact hne e
      · exact h.1 e
theorem keys_len (M : List (Int × Value)) (k : Int) (v : Value) : (mset M k v).length ≤ M.length + 1 := by
  induction M with
  | nil => simp [mset]
  | cons q M ih =>
    obtain ⟨q1, q2⟩ := q
    simp only [mset]
    split
    · simp
    · simp only [List.length_cons]; omega
theorem mem_keysOf (l : List Int) (x : Int) : x ∈ keysOf l ↔ x ∈ l := by
  have key : ∀ (l : List Int) (M : List (Int × Value)), x ∈ (l.foldl (fun M k => mset M k (.bool true)) M).map (·.1) ↔ x ∈ l ∨ x ∈ M.map (·.1) := by
    intro l
    induction l with
    | nil => intro M; simp
    | cons y l ih =>
      intro M
      rw [List.foldl_cons, ih, mem_mset_keys, List.mem_cons]
      constructor
      · rintro (h | h | h) <;> simp [h]
      · rintro ((h | h) | h) <;> simp [h]
  have := key l []
  simpa [keysOf, metM] using this
theorem nodup_keysOf (l : List Int) : (keysOf l).Nodup := by
  have key : ∀ (l : List Int) (M : List (Int × Value)), (M.map (·.1)).Nodup → ((l.foldl (fun M k => mset M k (.bool true)) M).map (·.1)).Nodup := by
    intro l
    induction l with
    | nil => intro M h; exact h
    | cons y l ih => intro M h; exact ih _ (mset_keys_nodup _ _ _ h)
  exact key l [] List.nodup_nil
theorem len_metM (l : List Int) : (metM l).length ≤ l.length := by
  have key : ∀ (l : List Int) (M : List (Int × Value)), (l.foldl (fun M k => mset M k (.bool true)) M).length ≤ l.length + M.length := by
    intro l
    induction l with
    | nil => intro M; simp
    | cons y l ih =>
      intro M
      have h1 := ih (mset M y (.bool true))
      have h2 := keys_len M y (.bool true)
      rw [List.foldl_cons, List.length_cons]
      omega
  have := key l []
  simpa [metM] using this
end Go.Proofs.Ytmcmmmaffdenjaa
