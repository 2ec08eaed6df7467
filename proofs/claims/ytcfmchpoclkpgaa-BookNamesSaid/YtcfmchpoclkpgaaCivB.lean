/-
  civil, continued: numbers of dates.
-/
import Derived.Test.YtcfmchpoclkpgaaCiv
namespace Go.Proofs.Ytcfmchpoclkpgaa
open Go.RowKit NB
namespace Civ

theorem right_spec {y m d : Int} (h : right y m d = true) : -40000 ≤ y ∧ y ≤ 40000 ∧ 1 ≤ m ∧ m ≤ 12 ∧ 1 ≤ d ∧ d ≤ Cal.len y m := by
  unfold right at h
  simp only [Bool.and_eq_true, decide_eq_true_eq] at h
  obtain ⟨⟨⟨a, b⟩, c⟩, d⟩ := h
  refine ⟨a, b, ?_, ?_, c, d⟩
  · by_cases hm : m < 1
    · rw [Cal.len_out _ _ (.inl hm)] at d; omega
    · omega
  · by_cases hm : 12 < m
    · rw [Cal.len_out _ _ (.inr hm)] at d; omega
    · omega

end Civ
end Go.Proofs.Ytcfmchpoclkpgaa
