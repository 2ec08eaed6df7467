/-
  The calendar in plain integers.
-/
import Derived.Test.YtcfmchpoclkpgaaPl
namespace Go.Proofs.Ytcfmchpoclkpgaa
namespace Cal
/-- leap years, as the document has them -/
def leap (y : Int) : Bool := decide (y % 4 = 0) && (!decide (y % 100 = 0) || decide (y % 400 = 0))
def lp (y : Int) : Int := if leap y then 1 else 0
/-- how many leap years up to y -/
def leaps (y : Int) : Int := y / 4 - y / 100 + y / 400
/-- days ahead of a year, from 1970 on -/
def ahead (y : Int) : Int := 365 * (y - 1970) + leaps (y - 1) - leaps 1969
def cum (y m : Int) : Int :=
  if m ≤ 1 then 0 else if m = 2 then 31 else
  (if m = 3 then 59 else if m = 4 then 90 else if m = 5 then 120 else if m = 6 then 151 else if m = 7 then 181 else if m = 8 then 212 else if m = 9 then 243 else if m = 10 then 273 else if m = 11 then 304 else if m = 12 then 334 else 365) + lp y
def len (y m : Int) : Int :=
  if m = 1 ∨ m = 3 ∨ m = 5 ∨ m = 7 ∨ m = 8 ∨ m = 10 ∨ m = 12 then 31 else if m = 4 ∨ m = 6 ∨ m = 9 ∨ m = 11 then 30 else if m = 2 then 28 + lp y else 0
def days (y m d : Int) : Int := ahead y + cum y m + d - 1
/-- the program's number -/
def y0 (y m : Int) : Int := if m < 3 then y - 1 else y
def m0 (m : Int) : Int := if m < 3 then m + 9 else m - 3
def number (y m d : Int) : Int :=
  y0 y m / 400 * 146097 + y0 y m % 400 * 365 + y0 y m % 400 / 4 - y0 y m % 400 / 100 + ((153 * m0 m + 2) / 5 + d - 1) - 719468
theorem lp_eq (y : Int) : lp y = (y / 4 - (y - 1) / 4) - (y / 100 - (y - 1) / 100) + (y / 400 - (y - 1) / 400) := by
  unfold lp leap
  by_cases h4 : y % 4 = 0 <;> by_cases h100 : y % 100 = 0 <;> by_cases h400 : y % 400 = 0 <;> simp [h4, h100, h400] <;> omega
theorem lp_01 (y : Int) : 0 ≤ lp y ∧ lp y ≤ 1 := by unfold lp; split <;> omega
theorem ahead_succ (y : Int) : ahead (y + 1) = ahead y + 365 + lp y := by
  have := lp_eq y
  unfold ahead leaps
  have h : y + 1 - 1 = y := by omega
  rw [h]; omega
theorem months {m : Int} (h1 : 1 ≤ m) (h2 : m ≤ 12) : m = 1 ∨ m = 2 ∨ m = 3 ∨ m = 4 ∨ m = 5 ∨ m = 6 ∨ m = 7 ∨ m = 8 ∨ m = 9 ∨ m = 10 ∨ m = 11 ∨ m = 12 := by omega
theorem number_eq (y m d : Int) (h1 : 1 ≤ m) (h2 : m ≤ 12) : number y m d = days y m d := by
  have hl := lp_eq y
  unfold days ahead leaps number y0 m0 cum
  rcases months h1 h2 with rfl | rfl | rfl | rfl | rfl | rfl | rfl | rfl | rfl | rfl | rfl | rfl <;> simp <;> omega
theorem len_bd (y m : Int) (h1 : 1 ≤ m) (h2 : m ≤ 12) : 28 ≤ len y m ∧ len y m ≤ 31 := by
  have := lp_01 y
  unfold len
  split
  · omega
  split
  · omega
  split <;> omega
theorem len_out (y m : Int) (h : m < 1 ∨ 12 < m) : len y m = 0 := by
  unfold len
  rw [if_neg (by omega), if_neg (by omega), if_neg (by omega)]
theorem len_le (y m : Int) : 0 ≤ len y m ∧ len y m ≤ 31 := by
  by_cases h : m < 1 ∨ 12 < m
  · rw [len_out y m h]; omega
  · have := len_bd y m (by omega) (by omega); omega
theorem cum_succ (y m : Int) (h1 : 1 ≤ m) (h2 : m ≤ 12) : cum y (m + 1) = cum y m + len y m := by
  unfold cum len
  rcases months h1 h2 with rfl | rfl | rfl | rfl | rfl | rfl | rfl | rfl | rfl | rfl | rfl | rfl <;> simp <;> omega
theorem cum_bd (y m : Int) (h1 : 1 ≤ m) (h2 : m ≤ 12) : 0 ≤ cum y m ∧ cum y m + len y m ≤ 365 + lp y := by
  have := lp_01 y
  unfold cum len
  rcases months h1 h2 with rfl | rfl | rfl | rfl | rfl | rfl | rfl | rfl | rfl | rfl | rfl | rfl <;> simp <;> omega
theorem ahead_bd (y : Int) (h1 : -40001 ≤ y) (h2 : y ≤ 40002) : -15400000 ≤ ahead y ∧ ahead y ≤ 14000000 := by unfold ahead leaps; omega
theorem ahead_mono {a b : Int} (h : a ≤ b) : ahead a + 365 * (b - a) ≤ ahead b := by unfold ahead leaps; omega
theorem leap_alt (y : Int) : leap y = (decide (y % 4 = 0) && (decide (y % 25 ≠ 0) || decide (y % 16 = 0))) := by
  unfold leap
  by_cases h4 : y % 4 = 0
  · by_cases h25 : y % 25 = 0
    · have e100 : y % 100 = 0 := by omega
      by_cases h16 : y % 16 = 0
      · have : y % 400 = 0 := by omega
        simp [h4, h25, h16, this]
      · have : ¬ y % 400 = 0 := by omega
        simp [h4, h25, h16, this, e100]
    · have e100 : ¬ y % 100 = 0 := by omega
      simp [h4, h25, e100]
  · simp [h4]
end Cal
end Go.Proofs.Ytcfmchpoclkpgaa
