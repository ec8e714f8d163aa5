/-
  What the laws of chapter 36 share.
-/
import Derived.Test.YtmcmmmaffdenjaaAwa
import Derived.Test.YtmcmmmaffdenjaaRlp
namespace Go.Proofs.Ytmcmmmaffdenjaa
open Go.RowKit Eng
set_option linter.unusedVariables false
set_option linter.unusedSimpArgs false
set_option maxHeartbeats 8000000
attribute [local irreducible] SC SQ J Qt Calls Iterates
theorem isOk_c (W : Wy) (A1 : Option Addr) (c1 : Nat) (A2 : Option Addr) (c2 : Nat) (B1 : Option Addr) (d1 : Nat) (B2 : Option Addr) (d2 : Nat) (w : World) (hl1 : W.pts.length ≤ 1000) (hl2 : W.ords.length ≤ 1000) (h1 : RS w 1 intC A1 W.pts) (h2 : RS w 1 intC A2 W.ords) (h3 : RS w 1 intC B1 W.pts) (h4 : RS w 1 intC B2 W.ords) :
    Calls Try.prog 43 #[wyA A1 W.pts.length c1 A2 W.ords.length c2 W.kd W.un, .int .i64 0, .slice B1 W.pts.length d1, .slice B2 W.ords.length d2, .int .u8 W.kd, .int .i64 W.un] w fun r w' => r = .returned (.bool true) ∧ Below w.heap.size w w' := by
  have h := is_c W A1 c1 A2 c2 0 B1 d1 W.pts B2 d2 W.ords W.kd W.un w (by omega) (by omega) (by omega) (by omega) h1 h2 h3 h4
  rw [show isF W 0 W.pts W.ords W.kd W.un = true from by unfold isF; rw [(sameF_iff _ _).2 rfl, (sameF_iff _ _).2 rfl]; simp] at h
  exact h
theorem resolve_f (A : Option Addr) (c : Nat) (l : List Od) (p d : Int) (w : World) (hr : rightB l = true) (hp : idI p) (hd : dayI d) (h : RS w 6 odC A l) :
    Calls Try.prog 39 #[.slice A l.length c, .int .i64 p, .int .i64 d] w fun e w' => ∃ x : Value × Value, True ∧ e = .returned (.tuple #[wyV x (wayF l p d), .int .i64 0]) ∧ St w Cold (wyL (wayF l p d) x) w' := by
  have h1 := Resolve_c A c l p d w (by have := ((rightB_iff l).1 hr).1; omega) h
  rw [resolve_ok ⟨hr, hp, hd⟩] at h1
  exact h1
theorem wrun_olen : ∀ (ys : List (Int × Od)) (s : Wy), (wrun s ys).1.ords.length ≤ s.ords.length + ys.length
  | [], s => by simp [wrun]
  | y :: ys, s => by
    obtain ⟨s', j, h⟩ : ∃ s' j, wst s y = (s', j) := ⟨_, _, rfl⟩
    have h2 := (wst_len s y).2
    rw [h] at h2
    dsimp only at h2
    simp only [wrun, h, List.length_cons]
    cases j
    · have := wrun_olen ys s'
      dsimp only
      omega
    · dsimp only
      omega
theorem way_olen (l : List Od) (p d : Int) : (wayF l p d).ords.length ≤ 501 := by
  unfold wayF way
  have h1 := wrun_olen (along (fun k => fo l k d) 500 p) ⟨[], [], 0, 0⟩
  have h2 := along_len (fun k => fo l k d) 500 p
  simp only [List.length_nil, Nat.zero_add] at h1
  omega
/-- Each once. -/
abbrev cntM (seen : List Int) : List (Int × Value) := seen.map fun k => (k, .int .i64 1)
theorem mlk_cnt : ∀ (seen : List Int) (k : Int), mlk (cntM seen) k = if k ∈ seen then some (.int .i64 1) else none
  | [], k => rfl
  | x :: seen, k => by
    have ih := mlk_cnt seen k
    simp only [cntM, List.map_cons, mlk, List.mem_cons] at ih ⊢
    by_cases h : x = k
    · subst h; simp
    · rw [if_neg h, ih]
      have : ¬ k = x := fun e => h e.symm
      simp [this]
theorem mset_cnt : ∀ (seen : List Int) (k : Int), k ∉ seen → mset (cntM seen) k (.int .i64 1) = cntM (seen ++ [k])
  | [], k, _ => rfl
  | x :: seen, k, h => by
    have ih := mset_cnt seen k (fun h' => h (List.mem_cons_of_mem _ h'))
    have hx : ¬ x = k := fun e => h (e ▸ List.mem_cons_self)
    simp only [cntM, List.map_cons, List.cons_append, mset, if_neg hx] at ih ⊢
    rw [ih]
theorem force_f {l : List Od} {p d : Int} (hr : rightB l = true) (hp : idI p) (hd : dayI d) (A : Option Addr) (c : Nat) (w : World) (h : RS w 6 odC A l) :
    Calls Try.prog 23 #[.slice A l.length c, .int .i64 p, .int .i64 d] w fun e w' => e = .returned (.tuple #[odV (if (fo l p d).idn = 0 then odZ else fo l p d), .int .i64 (if (fo l p d).idn = 0 then 6 else 0)]) ∧ Below w.heap.size w w' := by
  have h1 := Force_c A c l p d w (by have := ((rightB_iff l).1 hr).1; omega) h
  by_cases h0 : (fo l p d).idn = 0
  · rw [forceF_none ⟨hr, hp, hd⟩ h0] at h1
    rw [if_pos h0, if_pos h0]
    exact h1
  · rw [forceF_ok ⟨hr, hp, hd⟩ h0] at h1
    rw [if_neg h0, if_neg h0]
    exact h1
end Go.Proofs.Ytmcmmmaffdenjaa
