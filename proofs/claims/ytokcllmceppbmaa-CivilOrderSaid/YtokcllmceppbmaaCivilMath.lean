/-
  Plain mathematics of days: leap years, lengths, how many days lie before a year and before a month; that a day's number has one date alone. No program in sight.
-/
import Derived.Below
namespace Go.Proofs.Ytokcllmceppbmaa

def leapB (y : Int) : Bool := decide (y % 4 = 0 ∧ (y % 100 ≠ 0 ∨ y % 400 = 0))
def lp (y : Int) : Int := if leapB y = true then 1 else 0
def longI (y : Int) : Int := 365 + lp y
def daysI (y m : Int) : Int :=
  if m = 2 then 28 + lp y else if m = 4 ∨ m = 6 ∨ m = 9 ∨ m = 11 then 30 else if 1 ≤ m ∧ m ≤ 12 then 31 else 0
/-- days before the year y, from 2000 on -/
def dY (y : Int) : Int := 365 * (y - 2000) + (y - 2000 + 3) / 4 - (y - 2000 + 99) / 100 + (y - 2000 + 399) / 400
/-- days before the month m of the year y -/
def dM (y m : Int) : Int := (367 * m - 362) / 12 - (if m ≤ 2 then 0 else 2 - lp y)

theorem lp_01 (y : Int) : lp y = 0 ∨ lp y = 1 := by unfold lp; split <;> simp
theorem lp_eq (y : Int) : (lp y = 1 ∧ y % 4 = 0 ∧ (y % 100 ≠ 0 ∨ y % 400 = 0)) ∨ (lp y = 0 ∧ ¬(y % 4 = 0 ∧ (y % 100 ≠ 0 ∨ y % 400 = 0))) := by
  unfold lp leapB
  by_cases h : y % 4 = 0 ∧ (y % 100 ≠ 0 ∨ y % 400 = 0)
  · left; simp [h]
  · right; rw [if_neg (by simpa using h)]; exact ⟨rfl, h⟩
theorem dY_succ (y : Int) : dY (y + 1) = dY y + longI y := by
  unfold longI dY
  rcases lp_eq y with ⟨h, h1, h2⟩ | ⟨h, h1⟩ <;> rw [h]
  · rcases h2 with h2 | h2 <;> omega
  · by_cases h4 : y % 4 = 0
    · have h100 : y % 100 = 0 := by omega
      have h400 : y % 400 ≠ 0 := by omega
      omega
    · omega
theorem dY_mono (a b : Int) (h : a ≤ b) : dY a ≤ dY b := by unfold dY; omega
theorem dY_2000 : dY 2000 = 0 := by decide
theorem dY_2200 : dY 2200 = 73049 := by decide
theorem dM_1 (y : Int) : dM y 1 = 0 := by unfold dM; simp
theorem dM_13 (y : Int) : dM y 13 = longI y := by unfold dM longI; simp; omega
theorem daysI_0 (y m : Int) (h : m < 1 ∨ 12 < m) : daysI y m = 0 := by
  unfold daysI
  rw [if_neg (by omega), if_neg (by omega), if_neg (by omega)]
theorem dM_succ (y m : Int) (h1 : 1 ≤ m) (h2 : m ≤ 12) : dM y (m + 1) = dM y m + daysI y m := by
  have : m = 1 ∨ m = 2 ∨ m = 3 ∨ m = 4 ∨ m = 5 ∨ m = 6 ∨ m = 7 ∨ m = 8 ∨ m = 9 ∨ m = 10 ∨ m = 11 ∨ m = 12 := by omega
  rcases this with rfl | rfl | rfl | rfl | rfl | rfl | rfl | rfl | rfl | rfl | rfl | rfl <;> simp [dM, daysI] <;> omega
theorem dM_mono (y a b : Int) (h : a ≤ b) : dM y a ≤ dM y b := by
  have := lp_01 y
  unfold dM
  split <;> split <;> omega
theorem daysI_bd (y m : Int) : 0 ≤ daysI y m ∧ daysI y m ≤ 31 := by
  have := lp_01 y
  unfold daysI
  repeat' split
  all_goals omega
theorem daysI_pos (y m : Int) (h1 : 1 ≤ m) (h2 : m ≤ 12) : 28 ≤ daysI y m := by
  have := lp_01 y
  unfold daysI
  repeat' split
  all_goals omega
theorem longI_bd (y : Int) : 365 ≤ longI y ∧ longI y ≤ 366 := by
  have := lp_01 y
  unfold longI
  omega

/-- n is the number of the day y, m, d. -/
def IsDay (n y m d : Int) : Prop := 2000 ≤ y ∧ y ≤ 2199 ∧ 1 ≤ m ∧ m ≤ 12 ∧ 1 ≤ d ∧ d ≤ daysI y m ∧ dY y + dM y m + d - 1 = n

theorem IsDay.year {n y m d : Int} (h : IsDay n y m d) : dY y ≤ n ∧ n < dY (y + 1) ∧ dY y + dM y m ≤ n ∧ n < dY y + dM y (m + 1) := by
  obtain ⟨_, _, h1, h2, h3, h4, h5⟩ := h
  have e1 := dM_succ y m h1 h2
  have e2 := dM_mono y (m + 1) 13 (by omega)
  have e3 := dM_13 y
  have e4 := dY_succ y
  have e5 := dM_mono y 1 m h1
  have e6 := dM_1 y
  omega

theorem IsDay.uniq {n y m d y' m' d' : Int} (h : IsDay n y m d) (h' : IsDay n y' m' d') : y = y' ∧ m = m' ∧ d = d' := by
  have a := h.year
  have b := h'.year
  have hy : y = y' := by
    have m1 := dY_mono (y + 1) y'
    have m2 := dY_mono (y' + 1) y
    omega
  subst hy
  have hm : m = m' := by
    have m1 := dM_mono y (m + 1) m'
    have m2 := dM_mono y (m' + 1) m
    omega
  subst hm
  obtain ⟨_, _, _, _, _, _, e1⟩ := h
  obtain ⟨_, _, _, _, _, _, e2⟩ := h'
  exact ⟨rfl, rfl, by omega⟩

theorem IsDay.range {n y m d : Int} (h : IsDay n y m d) : 0 ≤ n ∧ n < 73049 := by
  have a := h.year
  obtain ⟨h1, h2, _⟩ := h
  have m1 := dY_mono 2000 y h1
  have m2 := dY_mono (y + 1) 2200 (by omega)
  have e1 := dY_2000
  have e2 := dY_2200
  omega

/-- the next day -/
theorem IsDay.next {n y m d y' m' d' : Int} (h : IsDay n y m d) (h' : IsDay (n + 1) y' m' d') :
    (d' = d + 1 ∧ m' = m ∧ y' = y) ∨ (d' = 1 ∧ d = daysI y m ∧ ((m < 12 ∧ m' = m + 1 ∧ y' = y) ∨ (m = 12 ∧ m' = 1 ∧ y' = y + 1))) := by
  obtain ⟨a1, a2, a3, a4, a5, a6, a7⟩ := h
  have hn' := h'.range
  by_cases hd : d + 1 ≤ daysI y m
  · have e : IsDay (n + 1) y m (d + 1) := ⟨a1, a2, a3, a4, by omega, hd, by omega⟩
    obtain ⟨rfl, rfl, rfl⟩ := e.uniq h'
    exact .inl ⟨rfl, rfl, rfl⟩
  · have hd' : d = daysI y m := by omega
    have e1 := dM_succ y m a3 a4
    by_cases hm : m < 12
    · have p := daysI_pos y (m + 1) (by omega) (by omega)
      have e : IsDay (n + 1) y (m + 1) 1 := ⟨a1, a2, by omega, by omega, by omega, by omega, by omega⟩
      obtain ⟨rfl, rfl, rfl⟩ := e.uniq h'
      exact .inr ⟨rfl, hd', .inl ⟨hm, rfl, rfl⟩⟩
    · obtain rfl : m = 12 := by omega
      have e2 := dM_13 y
      have e3 := dY_succ y
      have e4 : dM y (12 + 1) = longI y := e2
      have hy : y + 1 ≤ 2199 := by
        by_cases hy : y = 2199
        · subst hy
          have e5 := dY_2200
          have e6 : dY (2199 + 1) = 73049 := e5
          omega
        · omega
      have p := daysI_pos (y + 1) 1 (by omega) (by omega)
      have e5 := dM_1 (y + 1)
      have e : IsDay (n + 1) (y + 1) 1 1 := ⟨by omega, by omega, by omega, by omega, by omega, by omega, by omega⟩
      obtain ⟨rfl, rfl, rfl⟩ := e.uniq h'
      exact .inr ⟨rfl, hd', .inr ⟨rfl, rfl, rfl⟩⟩

/-- of two days the later one's numbers are the greater, the year first -/
theorem IsDay.lt {n y m d n' y' m' d' : Int} (h : IsDay n y m d) (h' : IsDay n' y' m' d') :
    (y < y' → n < n') ∧ (y = y' → m < m' → n < n') ∧ (y = y' → m = m' → (d < d' ↔ n < n')) := by
  have a := h.year
  have b := h'.year
  have m1 := dY_mono (y + 1) y'
  have m2 := dM_mono y (m + 1) m'
  obtain ⟨_, _, _, _, _, _, e1⟩ := h
  obtain ⟨_, _, _, _, _, _, e2⟩ := h'
  refine ⟨fun k => by omega, fun k l => ?_, fun k l => ?_⟩
  · subst k; omega
  · subst k; subst l; omega

end Go.Proofs.Ytokcllmceppbmaa
