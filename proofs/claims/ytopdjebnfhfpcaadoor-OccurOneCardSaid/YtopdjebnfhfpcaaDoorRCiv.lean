/-
  noontideref03: what its functions give, as the program runs them.
-/
import Derived.Test.YtopdjebnfhfpcaaDoorRNum
import Derived.Test.YtopdjebnfhfpcaaDoorYr
import Derived.Test.YtopdjebnfhfpcaaDoorCiv
namespace Go.Proofs.YtopdjebnfhfpcaaDoor
open Go.RowKit NB
namespace RCiv
theorem tmod_beq (y k : Int) (hk : 0 < k) : (y.tmod k == 0) = decide (y % k = 0) := by
  by_cases h : y % k = 0
  · simp [h, Pl.tmod_ex y k h]
  · have : y.tmod k ≠ 0 := fun h' => h (Int.emod_eq_zero_of_dvd (Int.dvd_of_tmod_eq_zero h'))
    simp [h, this]
theorem Leap (y : Int) (w : World) : Calls Tryd.prog 73 #[.int .i64 y] w fun e w' => e = .returned (.bool (Cal.leap y)) ∧ w = w' := by
  have e4 := tmod_beq y 4 (by omega)
  have e100 := tmod_beq y 100 (by omega)
  have e400 := tmod_beq y 400 (by omega)
  unfold Cal.leap
  cases h4 : decide (y % 4 = 0) <;> cases h100 : decide (y % 100 = 0) <;> cases h400 : decide (y % 400 = 0)
  all_goals first
    | (exfalso; have a1 := of_decide_eq_false h4; have a2 := of_decide_eq_true h400; omega)
    | (
      rw [h4] at e4
      rw [h100] at e100
      rw [h400] at e400
      have n100 : (y.tmod 100 != 0) = !(y.tmod 100 == 0) := rfl
      rw [e100] at n100
      clear h4 h100 h400
      simp only [Bool.not_true, Bool.not_false, Bool.and_true, Bool.and_false, Bool.true_and, Bool.false_and, Bool.or_true, Bool.or_false] at n100 ⊢
      go_enter Tryd.func73, Tryd.ntmps73
      go_wp2
      go_ret
      exact ⟨rfl, rfl⟩)
set_option maxHeartbeats 1600000 in
theorem Len (y m : Int) (w : World) : Calls Tryd.prog 35 #[.int .i64 y, .int .i64 m] w fun e w' => e = .returned (.int .i64 (Cal.len y m)) ∧ Below w.heap.size w w' := by
  by_cases h : m < 1 ∨ 12 < m
  · rw [Cal.len_out y m h]
    rcases h with h | h
    all_goals
      go_enter Tryd.func35, Tryd.ntmps35
      go_wp2
      go_ret
      exact ⟨rfl, by repeat (first | (with_reducible exact Below.refl _ _) | (with_reducible assumption) | (with_reducible refine ba ?_) | (with_reducible refine bd ?_) | (with_reducible refine bdn ?_ _) | (with_reducible refine bset ?_ (by first | exact Nat.le_refl _ | omega | (simp; done) | (simp; omega))) | (with_reducible refine bt ?_ (by with_reducible assumption)))⟩
  · by_cases h2 : m = 2
    · subst h2
      clear h
      cases hl : Cal.leap y
      all_goals
        have e : Cal.len y 2 = if Cal.leap y then 29 else 28 := by
          unfold Cal.len Cal.lp
          rw [if_neg (by decide), if_neg (by decide), if_pos rfl]
          split <;> rfl
        rw [e, hl]
        clear e
        have Hl := Lib.hid hl
        clear hl
        go_enter Tryd.func35, Tryd.ntmps35
        go_wp2_with (go_at_call 73; refine (Leap y _).mono ?_; rw [Hl.out]; rintro e w' ⟨rfl, rfl⟩)
        go_ret
        exact ⟨rfl, by repeat (first | (with_reducible exact Below.refl _ _) | (with_reducible assumption) | (with_reducible refine ba ?_) | (with_reducible refine bd ?_) | (with_reducible refine bdn ?_ _) | (with_reducible refine bset ?_ (by first | exact Nat.le_refl _ | omega | (simp; done) | (simp; omega))) | (with_reducible refine bt ?_ (by with_reducible assumption)))⟩
    · rcases Cal.months (m := m) (by omega) (by omega) with rfl | rfl | rfl | rfl | rfl | rfl | rfl | rfl | rfl | rfl | rfl | rfl
      all_goals
        clear h
        first
          | (exfalso; exact h2 rfl)
          | (clear h2
             go_enter Tryd.func35, Tryd.ntmps35
             go_wp2
             go_ret
             exact ⟨rfl, by repeat (first | (with_reducible exact Below.refl _ _) | (with_reducible assumption) | (with_reducible refine ba ?_) | (with_reducible refine bd ?_) | (with_reducible refine bdn ?_ _) | (with_reducible refine bset ?_ (by first | exact Nat.le_refl _ | omega | (simp; done) | (simp; omega))) | (with_reducible refine bt ?_ (by with_reducible assumption)))⟩)
end RCiv
end Go.Proofs.YtopdjebnfhfpcaaDoor
