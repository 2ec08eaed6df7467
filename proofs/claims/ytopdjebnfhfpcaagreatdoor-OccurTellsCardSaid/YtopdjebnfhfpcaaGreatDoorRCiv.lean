/-
  noontideref03: what its functions give, as the program runs them.
-/
import Derived.Test.YtopdjebnfhfpcaaGreatDoorRNum
import Derived.Test.YtopdjebnfhfpcaaGreatDoorYr
import Derived.Test.YtopdjebnfhfpcaaGreatDoorCiv
namespace Go.Proofs.YtopdjebnfhfpcaaGreatDoor
open Go.RowKit NB
namespace RCiv
theorem tmod_beq (y k : Int) (hk : 0 < k) : (y.tmod k == 0) = decide (y % k = 0) := by
  by_cases h : y % k = 0
  · simp [h, Pl.tmod_ex y k h]
  · have : y.tmod k ≠ 0 := fun h' => h (Int.emod_eq_zero_of_dvd (Int.dvd_of_tmod_eq_zero h'))
    simp [h, this]
theorem Leap (y : Int) (w : World) : Calls Tryz.prog 92 #[.int .i64 y] w fun e w' => e = .returned (.bool (Cal.leap y)) ∧ w = w' := by
  have e4 := tmod_beq y 4 (by omega)
  have e100 := tmod_beq y 100 (by omega)
  have e400 := tmod_beq y 400 (by omega)
  unfold Cal.leap
  cases h4 : decide (y % 4 = 0) <;> cases h100 : decide (y % 100 = 0) <;> cases h400 : decide (y % 400 = 0)
  all_goals first
    | (exfalso; have a1 := of_decide_eq_false h4; have a2 := of_decide_eq_true h400; omega)
    | (
      rw [h4] at e4
      rw [h100] at e100
      rw [h400] at e400
      have n100 : (y.tmod 100 != 0) = !(y.tmod 100 == 0) := rfl
      rw [e100] at n100
      clear h4 h100 h400
      simp only [Bool.not_true, Bool.not_false, Bool.and_true, Bool.and_false, Bool.true_and, Bool.false_and, Bool.or_true, Bool.or_false] at n100 ⊢
      go_enter Tryz.func92, Tryz.ntmps92
      go_wp2
      go_ret
      exact ⟨rfl, rfl⟩)
set_option maxHeartbeats 1600000 in
theorem Len (y m : Int) (w : World) : Calls Tryz.prog 71 #[.int .i64 y, .int .i64 m] w fun e w' => e = .returned (.int .i64 (Cal.len y m)) ∧ Below w.heap.size w w' := by
  by_cases h : m < 1 ∨ 12 < m
  · rw [Cal.len_out y m h]
    rcases h with h | h
    all_goals
      go_enter Tryz.func71, Tryz.ntmps71
      go_wp2
      go_ret
      exact ⟨rfl, by repeat (first | (with_reducible exact Below.refl _ _) | (with_reducible assumption) | (with_reducible refine ba ?_) | (with_reducible refine bd ?_) | (with_reducible refine bdn ?_ _) | (with_reducible refine bset ?_ (by first | exact Nat.le_refl _ | omega | (simp; done) | (simp; omega))) | (with_reducible refine bt ?_ (by with_reducible assumption)))⟩
  · by_cases h2 : m = 2
    · subst h2
      clear h
      cases hl : Cal.leap y
      all_goals
        have e : Cal.len y 2 = if Cal.leap y then 29 else 28 := by
          unfold Cal.len Cal.lp
          rw [if_neg (by decide), if_neg (by decide), if_pos rfl]
          split <;> rfl
        rw [e, hl]
        clear e
        have Hl := Lib.hid hl
        clear hl
        go_enter Tryz.func71, Tryz.ntmps71
        go_wp2_with (go_at_call 92; refine (Leap y _).mono ?_; rw [Hl.out]; rintro e w' ⟨rfl, rfl⟩)
        go_ret
        exact ⟨rfl, by repeat (first | (with_reducible exact Below.refl _ _) | (with_reducible assumption) | (with_reducible refine ba ?_) | (with_reducible refine bd ?_) | (with_reducible refine bdn ?_ _) | (with_reducible refine bset ?_ (by first | exact Nat.le_refl _ | omega | (simp; done) | (simp; omega))) | (with_reducible refine bt ?_ (by with_reducible assumption)))⟩
    · rcases Cal.months (m := m) (by omega) (by omega) with rfl | rfl | rfl | rfl | rfl | rfl | rfl | rfl | rfl | rfl | rfl | rfl
      all_goals
        clear h
        first
          | (exfalso; exact h2 rfl)
          | (clear h2
             go_enter Tryz.func71, Tryz.ntmps71
             go_wp2
             go_ret
             exact ⟨rfl, by repeat (first | (with_reducible exact Below.refl _ _) | (with_reducible assumption) | (with_reducible refine ba ?_) | (with_reducible refine bd ?_) | (with_reducible refine bdn ?_ _) | (with_reducible refine bset ?_ (by first | exact Nat.le_refl _ | omega | (simp; done) | (simp; omega))) | (with_reducible refine bt ?_ (by with_reducible assumption)))⟩)
theorem leaps (y : Int) (h0 : -100000 ≤ y) (h1 : y ≤ 100000) (w : World) : Calls Tryz.prog 107 #[.int .i64 y] w fun e w' => e = .returned (.int .i64 (Cal.leaps y)) ∧ w = w' := by
  have c4 := RNum.Floor y 4 (by omega) (by omega) (by omega) (by omega)
  have c100 := RNum.Floor y 100 (by omega) (by omega) (by omega) (by omega)
  have c400 := RNum.Floor y 400 (by omega) (by omega) (by omega) (by omega)
  unfold Cal.leaps
  have C4 := Lib.hid c4
  have C100 := Lib.hid c100
  have C400 := Lib.hid c400
  clear c4 c100 c400
  go_enter Tryz.func107, Tryz.ntmps107
  go_wp2_with (first | (go_at_call 97; (with_reducible refine (C4.out _).mono ?_); rintro e w' ⟨rfl, rfl⟩) | (go_at_call 97; (with_reducible refine (C100.out _).mono ?_); rintro e w' ⟨rfl, rfl⟩) | (go_at_call 97; (with_reducible refine (C400.out _).mono ?_); rintro e w' ⟨rfl, rfl⟩))
  go_ret
  exact ⟨rfl, rfl⟩
theorem Ahead (y : Int) (h0 : -50000 ≤ y) (h1 : y ≤ 50000) (w : World) : Calls Tryz.prog 91 #[.int .i64 y] w fun e w' => e = .returned (.int .i64 (Cal.ahead y)) ∧ w = w' := by
  have c1 := leaps (y - 1) (by omega) (by omega)
  have c2 := leaps 1969 (by omega) (by omega)
  unfold Cal.ahead
  have b1 : -100000 ≤ Cal.leaps (y - 1) ∧ Cal.leaps (y - 1) ≤ 100000 := by unfold Cal.leaps; omega
  have b2 : -100000 ≤ Cal.leaps 1969 ∧ Cal.leaps 1969 ≤ 100000 := by unfold Cal.leaps; omega
  have C1 := Lib.hid c1
  have C2 := Lib.hid c2
  clear c1 c2
  go_enter Tryz.func91, Tryz.ntmps91
  go_wp2_with (first | (go_at_call 107; (with_reducible refine (C1.out _).mono ?_); rintro e w' ⟨rfl, rfl⟩) | (go_at_call 107; (with_reducible refine (C2.out _).mono ?_); rintro e w' ⟨rfl, rfl⟩))
  go_ret
  exact ⟨rfl, rfl⟩
end RCiv
end Go.Proofs.YtopdjebnfhfpcaaGreatDoor
