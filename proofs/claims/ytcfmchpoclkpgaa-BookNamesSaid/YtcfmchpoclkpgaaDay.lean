/-
  dayrule: what its functions give, as the program runs them.
-/
import Derived.Test.YtcfmchpoclkpgaaCivB
namespace Go.Proofs.Ytcfmchpoclkpgaa
open Go.RowKit NB
namespace Day
/-- whether a name of a day may be -/
def onRight (k wk d : Int) : Bool := if k = 1 then decide (0 ≤ wk ∧ wk ≤ 6 ∧ d = 0) else decide (0 ≤ k ∧ k ≤ 3 ∧ 0 ≤ wk ∧ wk ≤ (if k = 0 then 0 else 6) ∧ 1 ≤ d ∧ d ≤ 31)
theorem onRight_iff (k wk d : Int) : onRight k wk d = true ↔ (k = 1 ∧ 0 ≤ wk ∧ wk ≤ 6 ∧ d = 0) ∨ (k = 0 ∧ wk = 0 ∧ 1 ≤ d ∧ d ≤ 31) ∨ ((k = 2 ∨ k = 3) ∧ 0 ≤ wk ∧ wk ≤ 6 ∧ 1 ≤ d ∧ d ≤ 31) := by
  unfold onRight
  by_cases h1 : k = 1
  · simp [h1]
  · by_cases h0 : k = 0
    · simp [h0]; omega
    · simp [h1, h0]; omega
/-- whether it fits a month -/
def fits (k wk d m : Int) : Bool := onRight k wk d && (decide (1 ≤ m) && decide (m ≤ 12)) && decide (d ≤ Cal.len 1 m)
theorem fits_spec {k wk d m : Int} (h : fits k wk d m = true) : 1 ≤ m ∧ m ≤ 12 ∧ d ≤ Cal.len 1 m ∧ ((k = 1 ∧ 0 ≤ wk ∧ wk ≤ 6 ∧ d = 0) ∨ (k = 0 ∧ wk = 0 ∧ 1 ≤ d ∧ d ≤ 31) ∨ ((k = 2 ∨ k = 3) ∧ 0 ≤ wk ∧ wk ≤ 6 ∧ 1 ≤ d ∧ d ≤ 31)) := by
  unfold fits at h
  simp only [Bool.and_eq_true, decide_eq_true_eq] at h
  exact ⟨h.1.2.1, h.1.2.2, h.2, (onRight_iff _ _ _).1 h.1.1⟩
/-- how many days a day is behind the last one of a weekday -/
def backI (n wk : Int) : Int := ((n + 4) % 7 - wk + 7) % 7
end Day
end Go.Proofs.Ytcfmchpoclkpgaa
