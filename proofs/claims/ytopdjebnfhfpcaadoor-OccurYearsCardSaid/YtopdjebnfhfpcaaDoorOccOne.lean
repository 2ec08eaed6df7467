/-
  One rule alone, and what stands next to what, in plain data.
-/
import Derived.Test.YtopdjebnfhfpcaaDoorOccIn
namespace Go.Proofs.YtopdjebnfhfpcaaDoor
open Go.RowKit NB
namespace Occ
theorem all_one {r : RuleV} (hR : Rul.right r = true) {o : OccV} : All [r] r.name 1 o ↔ Of r 0 o := by
  constructor
  · rintro ⟨i, r', h1, h2, h3, h4, h5⟩
    obtain rfl : i = 0 := by omega
    cases h2
    exact h5
  · intro h
    exact ⟨0, r, by omega, rfl, rfl, hR, h⟩
theorem next_one {r : RuleV} (hR : Rul.right r = true) {y : Int} (h1 : r.fr ≤ y) (h2 : y ≤ r.to) : nextO [r] r.name (occ r 0 y) = if y < r.to then some (occ r 0 (y + 1)) else none := by
  refine Best.unique weak_less (best_next _ _ _) ?_
  show Best less (occ r 0 y) (All [r] r.name 1) _
  split
  · refine ⟨(all_one hR).2 ⟨by show r.fr ≤ y + 1; omega, by show y + 1 ≤ r.to; omega, rfl⟩, by rw [less_same r hR]; simp; omega, fun o ho hl => ?_⟩
    obtain ⟨_, _, e⟩ := (all_one hR).1 ho
    rw [e, less_same r hR] at hl ⊢
    simp only [decide_eq_true_eq] at hl
    simp only [decide_eq_false_iff_not]
    omega
  · intro o ho
    obtain ⟨g1, g2, e⟩ := (all_one hR).1 ho
    rw [e, less_same r hR]
    simp only [decide_eq_false_iff_not]
    omega
theorem prev_one {r : RuleV} (hR : Rul.right r = true) {y : Int} (h1 : r.fr ≤ y) (h2 : y ≤ r.to) : prevO [r] r.name (occ r 0 y) = if r.fr < y then some (occ r 0 (y - 1)) else none := by
  refine Best.unique weak_more (best_prev _ _ _) ?_
  show Best more (occ r 0 y) (All [r] r.name 1) _
  split
  · refine ⟨(all_one hR).2 ⟨by show r.fr ≤ y - 1; omega, by show y - 1 ≤ r.to; omega, rfl⟩, by unfold more; rw [less_same r hR]; simp; omega, fun o ho hl => ?_⟩
    obtain ⟨_, _, e⟩ := (all_one hR).1 ho
    unfold more at hl ⊢
    rw [e, less_same r hR] at hl ⊢
    simp only [decide_eq_true_eq] at hl
    simp only [decide_eq_false_iff_not]
    omega
  · intro o ho
    obtain ⟨g1, g2, e⟩ := (all_one hR).1 ho
    unfold more
    rw [e, less_same r hR]
    simp only [decide_eq_false_iff_not]
    omega
/-- what is behind, and is ahead of what is next, is no occurrence -/
theorem next_gap {l : List RuleV} {name : ByteArray} {fr a o : OccV} (h : nextO l name fr = some a) (ho : All l name l.length o) (h1 : less fr o = true) (h2 : less o a = true) : False := by
  have := best_next l name fr
  rw [h] at this
  rw [this.2.2 o ho h1] at h2
  cases h2
theorem next_prev {l : List RuleV} {name : ByteArray} {fr a c : OccV} (h : nextO l name fr = some a) (hc : prevO l name a = some c) : less fr c = false := by
  cases hl : less fr c
  · rfl
  · have := best_prev l name a
    rw [hc] at this
    exact (next_gap h this.1 hl this.2.1).elim
theorem prev_there {l : List RuleV} {name : ByteArray} {fr a b : OccV} (h : nextO l name fr = some a) (hb : prevO l name fr = some b) : prevO l name a ≠ none := by
  intro hn
  have h1 := best_prev l name fr
  have h2 := best_prev l name a
  rw [hb] at h1
  rw [hn] at h2
  have h3 := h2 b h1.1
  have h4 := weak_less.tr b fr a h1.2.1 (next_all h).2
  unfold more at h3
  rw [h4] at h3
  cases h3
end Occ
end Go.Proofs.YtopdjebnfhfpcaaDoor
