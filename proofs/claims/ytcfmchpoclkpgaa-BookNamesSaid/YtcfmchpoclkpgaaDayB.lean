/-
  dayrule, continued: windows and days.
-/
import Derived.Test.YtcfmchpoclkpgaaDay
namespace Go.Proofs.Ytcfmchpoclkpgaa
open Go.RowKit NB
namespace Day
def winLow (k d m : Int) : Int := if k = 1 then Cal.len 1 m - 6 else if k = 3 then d - 6 else d
def winHigh (k d m : Int) : Int := if k = 1 then Cal.len 4 m else if k = 2 then d + 6 else d
theorem kinds {k wk d m : Int} (h : fits k wk d m = true) : k = 1 ∨ k = 0 ∨ k = 2 ∨ k = 3 := by
  obtain ⟨_, _, _, h⟩ := fits_spec h
  omega
theorem days31 {k wk d m : Int} (h : fits k wk d m = true) : 0 ≤ d ∧ d ≤ 31 ∧ 0 ≤ wk ∧ wk ≤ 6 := by
  obtain ⟨_, _, _, h⟩ := fits_spec h
  omega

/-- the day that is named -/
def dayI (k wk d y m : Int) : Int :=
  if k = 1 then (Cal.days y m 1 + Cal.len y m - 1) - backI (Cal.days y m 1 + Cal.len y m - 1) wk
  else if k = 2 then (Cal.days y m 1 + d - 1) + (6 - backI (Cal.days y m 1 + d - 1 + 6) wk)
  else if k = 3 then (Cal.days y m 1 + d - 1) - backI (Cal.days y m 1 + d - 1) wk
  else Cal.days y m 1 + d - 1
theorem backI_bd (n wk : Int) : 0 ≤ backI n wk ∧ backI n wk ≤ 6 := by unfold backI; omega
theorem right_first {y m : Int} (h1 : -40000 ≤ y) (h2 : y ≤ 40000) (h3 : 1 ≤ m) (h4 : m ≤ 12) : Civ.right y m 1 = true := by
  have := Cal.len_bd y m h3 h4
  unfold Civ.right
  simp only [Bool.and_eq_true, decide_eq_true_eq]
  omega
theorem first_bd {y m : Int} (h1 : -40000 ≤ y) (h2 : y ≤ 40000) (h3 : 1 ≤ m) (h4 : m ≤ 12) : -16000000 ≤ Cal.days y m 1 ∧ Cal.days y m 1 ≤ 16000000 := by
  have := Cal.ahead_bd y (by omega) (by omega)
  have := Cal.cum_bd y m h3 h4
  have := Cal.len_bd y m h3 h4
  have := Cal.lp_01 y
  unfold Cal.days; omega

end Day
end Go.Proofs.Ytcfmchpoclkpgaa
