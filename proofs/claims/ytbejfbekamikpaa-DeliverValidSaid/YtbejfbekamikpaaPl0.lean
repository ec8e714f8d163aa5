/-
  Plain arithmetic of days, months and years.
-/

namespace Go.Proofs.Ytbejfbekamikpaa
def checkDayF (d : Int) : Int := if d < 0 then 2 else if 730484 < d then 3 else 0
def ysF (y : Int) : Int := (y-2001)*365 + (y-2001)/4 - (y-2001)/100 + (y-2001)/400
def leapB (y : Int) : Bool := decide (y % 4 = 0) && (decide (y % 100 ≠ 0) || decide (y % 400 = 0))
def aheadF (m : Int) : Int := if m = 0 then 0 else if m = 1 then 31 else if m = 2 then 59 else if m = 3 then 90 else if m = 4 then 120 else if m = 5 then 151 else if m = 6 then 181 else if m = 7 then 212 else if m = 8 then 243 else if m = 9 then 273 else if m = 10 then 304 else if m = 11 then 334 else 365
def mdF (m : Int) (leap : Bool) : Int := aheadF m - aheadF (m-1) + if leap && decide (m = 2) then 1 else 0
theorem ahead_bd (m : Int) : 0 ≤ aheadF m ∧ aheadF m ≤ 365 := by unfold aheadF; (repeat' split) <;> omega
theorem md_bd (m : Int) (leap : Bool) (h1 : 1 ≤ m) (h2 : m ≤ 12) : 28 ≤ mdF m leap ∧ mdF m leap ≤ 31 := by
  have : m = 1 ∨ m = 2 ∨ m = 3 ∨ m = 4 ∨ m = 5 ∨ m = 6 ∨ m = 7 ∨ m = 8 ∨ m = 9 ∨ m = 10 ∨ m = 11 ∨ m = 12 := by omega
  rcases this with rfl|rfl|rfl|rfl|rfl|rfl|rfl|rfl|rfl|rfl|rfl|rfl <;> cases leap <;> decide
/-- the days of a year ahead of a month -/
def cumF (m : Int) (leap : Bool) : Int := aheadF (m-1) + if leap && decide (2 < m) then 1 else 0
theorem cum_succ (m : Int) (leap : Bool) (h1 : 1 ≤ m) (h2 : m ≤ 12) : cumF (m+1) leap = cumF m leap + mdF m leap := by
  have : m = 1 ∨ m = 2 ∨ m = 3 ∨ m = 4 ∨ m = 5 ∨ m = 6 ∨ m = 7 ∨ m = 8 ∨ m = 9 ∨ m = 10 ∨ m = 11 ∨ m = 12 := by omega
  rcases this with rfl|rfl|rfl|rfl|rfl|rfl|rfl|rfl|rfl|rfl|rfl|rfl <;> cases leap <;> decide
theorem cum_bd (m : Int) (leap : Bool) : 0 ≤ cumF m leap ∧ cumF m leap ≤ 366 := by
  have := ahead_bd (m - 1)
  unfold cumF; split <;> omega
theorem cum_1 (leap : Bool) : cumF 1 leap = 0 := by cases leap <;> decide
theorem cum_13 (leap : Bool) : cumF 13 leap = 365 + if leap then 1 else 0 := by cases leap <;> decide
theorem cum_mono1 (a b : Int) (leap : Bool) (h1 : 1 ≤ a) (h2 : a ≤ b) (h3 : b ≤ 13) : cumF a leap ≤ cumF b leap := by
  have ha : a = 1 ∨ a = 2 ∨ a = 3 ∨ a = 4 ∨ a = 5 ∨ a = 6 ∨ a = 7 ∨ a = 8 ∨ a = 9 ∨ a = 10 ∨ a = 11 ∨ a = 12 ∨ a = 13 := by omega
  have hb : b = 1 ∨ b = 2 ∨ b = 3 ∨ b = 4 ∨ b = 5 ∨ b = 6 ∨ b = 7 ∨ b = 8 ∨ b = 9 ∨ b = 10 ∨ b = 11 ∨ b = 12 ∨ b = 13 := by omega
  rcases ha with rfl|rfl|rfl|rfl|rfl|rfl|rfl|rfl|rfl|rfl|rfl|rfl|rfl <;> rcases hb with rfl|rfl|rfl|rfl|rfl|rfl|rfl|rfl|rfl|rfl|rfl|rfl|rfl <;> first | (exfalso; omega) | (cases leap <;> decide)
def moF (r : Int) (leap : Bool) : Int := if r < cumF 2 leap then 1 else if r < cumF 3 leap then 2 else if r < cumF 4 leap then 3 else if r < cumF 5 leap then 4 else if r < cumF 6 leap then 5 else if r < cumF 7 leap then 6
  else if r < cumF 8 leap then 7 else if r < cumF 9 leap then 8 else if r < cumF 10 leap then 9 else if r < cumF 11 leap then 10 else if r < cumF 12 leap then 11 else 12
theorem mo_of (r m : Int) (leap : Bool) (h1 : 1 ≤ m) (h2 : m ≤ 12) (h3 : cumF m leap ≤ r) (h4 : r < cumF (m+1) leap) : moF r leap = m := by
  have key : ∀ a, 1 ≤ a → a ≤ 12 → (r < cumF (a+1) leap ↔ m ≤ a) := by
    intro a ha hb
    constructor
    · intro h
      by_cases hc : m ≤ a
      · exact hc
      · exfalso
        have := cum_mono1 (a+1) m leap (by omega) (by omega) (by omega)
        omega
    · intro h
      have := cum_mono1 (m+1) (a+1) leap (by omega) (by omega) (by omega)
      omega
  have k1 := key 1 (by omega) (by omega)
  have k2 := key 2 (by omega) (by omega)
  have k3 := key 3 (by omega) (by omega)
  have k4 := key 4 (by omega) (by omega)
  have k5 := key 5 (by omega) (by omega)
  have k6 := key 6 (by omega) (by omega)
  have k7 := key 7 (by omega) (by omega)
  have k8 := key 8 (by omega) (by omega)
  have k9 := key 9 (by omega) (by omega)
  have k10 := key 10 (by omega) (by omega)
  have k11 := key 11 (by omega) (by omega)
  simp only [show (1:Int)+1 = 2 from rfl, show (2:Int)+1 = 3 from rfl, show (3:Int)+1 = 4 from rfl, show (4:Int)+1 = 5 from rfl, show (5:Int)+1 = 6 from rfl, show (6:Int)+1 = 7 from rfl, show (7:Int)+1 = 8 from rfl, show (8:Int)+1 = 9 from rfl, show (9:Int)+1 = 10 from rfl, show (10:Int)+1 = 11 from rfl, show (11:Int)+1 = 12 from rfl] at k1 k2 k3 k4 k5 k6 k7 k8 k9 k10 k11
  unfold moF
  simp only [k1, k2, k3, k4, k5, k6, k7, k8, k9, k10, k11]
  have : m = 1 ∨ m = 2 ∨ m = 3 ∨ m = 4 ∨ m = 5 ∨ m = 6 ∨ m = 7 ∨ m = 8 ∨ m = 9 ∨ m = 10 ∨ m = 11 ∨ m = 12 := by omega
  rcases this with rfl|rfl|rfl|rfl|rfl|rfl|rfl|rfl|rfl|rfl|rfl|rfl <;> decide
theorem ys_mono (a b : Int) (h : a ≤ b) : ysF a ≤ ysF b := by unfold ysF; omega
theorem ys_succ (y : Int) : ysF (y+1) = ysF y + 365 + if leapB y then 1 else 0 := by
  by_cases h4 : y % 4 = 0
  · by_cases h100 : y % 100 = 0
    · by_cases h400 : y % 400 = 0
      · have : leapB y = true := by simp [leapB, h4, h100, h400]
        rw [this, if_pos rfl]; unfold ysF; omega
      · have : leapB y = false := by simp [leapB, h4, h100, h400]
        rw [this, if_neg (by simp)]; unfold ysF; omega
    · have : leapB y = true := by simp [leapB, h4, h100]
      rw [this, if_pos rfl]; unfold ysF; omega
  · have : leapB y = false := by simp [leapB, h4]
    rw [this, if_neg (by simp)]; unfold ysF; omega
def yrF (d : Int) : Int := let y := 2001 + d * 400 / 146097; if d < ysF y then y - 1 else if ysF (y+1) ≤ d then y + 1 else y
theorem yr_spec (d : Int) (h0 : 0 ≤ d) (h1 : d ≤ 730484) : ysF (yrF d) ≤ d ∧ d < ysF (yrF d + 1) ∧ 2001 ≤ yrF d ∧ yrF d ≤ 4000 ∧ yrF d - 1 ≤ 2001 + d * 400 / 146097 ∧ 2001 + d * 400 / 146097 ≤ yrF d + 1 := by
  unfold yrF
  simp only
  split
  · rename_i h; unfold ysF at *; refine ⟨?_, ?_, ?_, ?_, ?_, ?_⟩ <;> omega
  · split
    · rename_i h h'
      have hb : d * 400 / 146097 ≤ 1999 := by omega
      by_cases hb' : d * 400 / 146097 = 1999
      · rw [hb'] at h'; exfalso; unfold ysF at h'; omega
      · unfold ysF at *; refine ⟨?_, ?_, ?_, ?_, ?_, ?_⟩ <;> omega
    · rename_i h h'; unfold ysF at *; refine ⟨?_, ?_, ?_, ?_, ?_, ?_⟩ <;> omega
theorem yr_uniq (d y : Int) (h0 : 0 ≤ d) (h1 : d ≤ 730484) (h2 : ysF y ≤ d) (h3 : d < ysF (y+1)) : yrF d = y := by
  obtain ⟨a, b, _⟩ := yr_spec d h0 h1
  rcases Int.lt_trichotomy (yrF d) y with h | h | h
  · have := ys_mono (yrF d + 1) y (by omega); omega
  · exact h
  · have := ys_mono (y + 1) (yrF d) (by omega); omega
/-- the day of the year, from 0 on -/
def doyF (d : Int) : Int := d - ysF (yrF d)
def mthF (d : Int) : Int := moF (doyF d) (leapB (yrF d))
def dayF (d : Int) : Int := doyF d - cumF (mthF d) (leapB (yrF d)) + 1
def ydB (n : Int) : Bool := decide (0 < n) && (decide (1 ≤ n / 100) && (decide (n / 100 ≤ 12) && (decide (1 ≤ n % 100) && decide (n % 100 ≤ mdF (n / 100) true))))
def yearlyB (day a b : Int) : Bool := let n := 100 * mthF day + dayF day; if b < a then decide (a ≤ n) || decide (n ≤ b) else decide (a ≤ n) && decide (n ≤ b)
theorem mth_day_bd (d : Int) (h0 : 0 ≤ d) (h1 : d ≤ 730484) : 1 ≤ mthF d ∧ mthF d ≤ 12 ∧ 1 ≤ dayF d ∧ dayF d ≤ mdF (mthF d) (leapB (yrF d)) := by
  obtain ⟨y1, y2, _⟩ := yr_spec d h0 h1
  have hls := ys_succ (yrF d)
  generalize hlp : leapB (yrF d) = lp at *
  have hr0 : 0 ≤ doyF d := by unfold doyF; omega
  have hr1 : doyF d < cumF 13 lp := by rw [cum_13]; unfold doyF; cases lp <;> simp_all <;> omega
  have hex : ∃ m, 1 ≤ m ∧ m ≤ 12 ∧ cumF m lp ≤ doyF d ∧ doyF d < cumF (m+1) lp := by
    apply Classical.byContradiction
    intro hn
    have key : ∀ k : Nat, k ≤ 12 → cumF ((k:Int)+1) lp ≤ doyF d := by
      intro k
      induction k with
      | zero => intro _; show cumF (((0:Nat):Int)+1) lp ≤ _; simp only [Int.ofNat_zero, Int.zero_add]; rw [cum_1]; exact hr0
      | succ k ih =>
        intro hk
        have := ih (by omega)
        by_cases hlt : doyF d < cumF ((k:Int)+1+1) lp
        · exact absurd ⟨(k:Int)+1, by omega, by omega, this, hlt⟩ hn
        · simp only [Int.natCast_succ]; omega
    have := key 12 (by omega)
    simp only [show (((12:Nat):Int)+1) = 13 from rfl] at this
    omega
  obtain ⟨m, m1, m2, m3, m4⟩ := hex
  have e : mthF d = m := by unfold mthF; rw [hlp]; exact mo_of _ _ _ m1 m2 m3 m4
  have hcs := cum_succ m lp m1 m2
  unfold dayF
  rw [e, hlp]
  refine ⟨m1, m2, by omega, by omega⟩
/-- a list of holidays -/
def rightFrom : Int → List Int → Bool
  | _, [] => true
  | last, d :: l => decide (last < d) && (decide (d ≤ 730484) && rightFrom d l)
def rightB (l : List Int) : Bool := decide ((l.length : Int) ≤ 1000) && rightFrom (-1) l
end Go.Proofs.Ytbejfbekamikpaa
