/-
  Plain facts: the same date in another year; rules of one kind.
-/
import Derived.Test.YtbejfbekamikpaaPl2
namespace Go.Proofs.Ytbejfbekamikpaa
set_option linter.unusedVariables false
def dayOfF (y m d : Int) : Int := ysF y + cumF m (leapB y) + d - 1
theorem ys_bd (y : Int) (h : 2001 ≤ y) (h2 : y ≤ 4001) : 0 ≤ ysF y ∧ ysF y ≤ 730485 := by unfold ysF; omega
theorem date_of (y m d : Int) (h : 2001 ≤ y) (h2 : y ≤ 4000) (h3 : 1 ≤ m) (h4 : m ≤ 12) (h5 : 1 ≤ d) (h6 : d ≤ mdF m (leapB y)) :
    0 ≤ dayOfF y m d ∧ dayOfF y m d ≤ 730484 ∧ mthF (dayOfF y m d) = m ∧ dayF (dayOfF y m d) = d := by
  obtain ⟨lp, hlp⟩ : ∃ lp, leapB y = lp := ⟨_, rfl⟩
  have hc := cum_succ m lp h3 h4
  have hm1 := cum_mono1 1 m lp (by omega) h3 (by omega)
  have hm2 := cum_mono1 (m + 1) 13 lp (by omega) (by omega) (by omega)
  rw [cum_1] at hm1
  rw [cum_13] at hm2
  have hs := ys_succ y
  have hb := ys_bd y h (by omega)
  have hb1 := ys_bd (y + 1) (by omega) (by omega)
  rw [hlp] at h6 hs
  have hd : dayOfF y m d = ysF y + cumF m lp + d - 1 := by unfold dayOfF; rw [hlp]
  generalize dayOfF y m d = x at *
  have hx0 : ysF y ≤ x := by omega
  have hx1 : x < ysF (y + 1) := by cases lp <;> simp at hm2 hs <;> omega
  have hxm : x ≤ 730484 := by omega
  have hyr := yr_uniq x y (by omega) hxm hx0 hx1
  have hdo : doyF x = cumF m lp + d - 1 := by unfold doyF; rw [hyr]; omega
  have hmo : mthF x = m := by unfold mthF; rw [hdo, hyr, hlp]; exact mo_of _ m lp h3 h4 (by omega) (by omega)
  refine ⟨by omega, hxm, hmo, ?_⟩
  unfold dayF
  rw [hmo, hdo, hyr, hlp]
  omega
theorem md_mono (m : Int) (lp : Bool) : mdF m false ≤ mdF m lp := by cases lp <;> simp [mdF] <;> split <;> omega
theorem later_of (d y : Int) (h0 : 0 ≤ d) (h1 : d ≤ 364) (h : 2001 ≤ y) (h2 : y ≤ 4000) :
    1 ≤ mthF d ∧ mthF d ≤ 12 ∧ 1 ≤ dayF d ∧ dayF d ≤ mdF (mthF d) (leapB y) := by
  obtain ⟨a, b, c, e⟩ := mth_day_bd d h0 (by omega)
  have hy : yrF d = 2001 := yr_uniq d 2001 h0 (by omega) (by unfold ysF; omega) (by unfold ysF; omega)
  rw [hy] at e
  have hl : leapB 2001 = false := by decide
  rw [hl] at e
  exact ⟨a, b, c, Int.le_trans e (md_mono _ _)⟩
def kindF (k : Int) (l : List Ru) : List Ru := l.filter fun x => decide (x.kd = k)
theorem own_kind (l : List Ru) (t j k : Int) (h : j ≠ k) : ownF (kindF k l) t j = [] := by
  unfold ownF kindF
  rw [List.filter_filter, List.filter_eq_nil_iff]
  intro x _ hx
  simp only [isR, Bool.and_eq_true, decide_eq_true_eq] at hx
  exact h (hx.1.2.symm.trans hx.2)
theorem sea_same (d e : Int) (h0 : 0 ≤ d) (h1 : d ≤ 730484) (h2 : 0 ≤ e) (h3 : e ≤ 730484) (hm : mthF e = mthF d) (hd : dayF e = dayF d) : seaB e = seaB d := by
  funext x
  have c1 : checkDayF d = 0 := by unfold checkDayF; (repeat' split) <;> omega
  have c2 : checkDayF e = 0 := by unfold checkDayF; (repeat' split) <;> omega
  simp only [seaB, c1, c2, yearlyB, hm, hd]
theorem seasons_same (p : Pt) (l : List Ru) (d e : Int) (h : seaB e = seaB d) : statusF p (kindF 1 l) [] e = statusF p (kindF 1 l) [] d := by
  have f : ∀ d, foundF [] d = false := fun d => rfl
  simp only [statusF, own_kind l p.id 2 1 (by decide), own_kind l p.id 3 1 (by decide), h, f, List.any_nil]
theorem weeks_same (p : Pt) (l : List Ru) (d e : Int) (h : e % 7 = d % 7) : statusF p (kindF 3 l) [] e = statusF p (kindF 3 l) [] d := by
  have f : ∀ d, foundF [] d = false := fun d => rfl
  simp only [statusF, own_kind l p.id 2 3 (by decide), own_kind l p.id 1 3 (by decide), h, f, List.any_nil, List.isEmpty_nil]
theorem kind_take (k : Int) (l : List Ru) (i : Nat) (x : Ru) (h : l[i]? = some x) : kindF k (l.take (i + 1)) = kindF k (l.take i) ++ (if x.kd = k then [x] else []) := by
  unfold kindF
  rw [List.take_add_one, h, List.filter_append]
  simp [List.filter_cons]
theorem kind_len (k : Int) (l : List Ru) : (kindF k l).length ≤ l.length := List.length_filter_le _ _
theorem kind_ok (k : Int) (l : List Ru) (h : ∀ x ∈ l, ruOk x) : ∀ x ∈ kindF k l, ruOk x := fun x hx => h x (List.mem_filter.1 hx).1
end Go.Proofs.Ytbejfbekamikpaa
