/-
  Rules that may be: what that says of their parts.
-/
import Derived.Test.YtcfmchpoclkpgaaRule
namespace Go.Proofs.Ytcfmchpoclkpgaa
open Go.RowKit NB
namespace Rul
theorem right_spec {r : RuleV} (h : right r = true) : (-32767 ≤ r.fr ∧ r.fr ≤ r.to ∧ r.to ≤ 32767) ∧ Day.fits r.kind r.week r.day r.month = true ∧ (0 ≤ r.base ∧ r.base ≤ 2 ∧ 0 ≤ r.sec ∧ r.sec ≤ 172800) ∧ (-10800 ≤ r.save ∧ r.save ≤ 10800) := by
  unfold right at h
  simp only [Bool.and_eq_true, beq_iff_eq] at h
  obtain ⟨⟨⟨⟨⟨⟨h1, h2⟩, _⟩, _⟩, h5⟩, h6⟩, h7⟩ := h
  have hc := of_decide_eq_true h6
  unfold saves at h7
  simp only [Bool.and_eq_true, decide_eq_true_eq] at h7
  unfold toErr may at h1
  unfold frErr may at h2
  refine ⟨?_, h5, hc, h7⟩
  by_cases a : (decide (-32767 ≤ r.to) && decide (r.to ≤ 32767)) = true
  · rw [if_pos a] at h1
    by_cases b : (decide (-32767 ≤ r.fr) && decide (r.fr ≤ 32767)) = true
    · simp only [Bool.and_eq_true, decide_eq_true_eq] at a b
      by_cases c : r.to < r.fr
      · rw [if_pos c] at h1; cases h1
      · omega
    · rw [if_neg b] at h2; cases h2
  · rw [if_neg a] at h1; cases h1
end Rul
end Go.Proofs.Ytcfmchpoclkpgaa
