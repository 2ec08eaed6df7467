/-
  civil: what its functions give, as the program runs them.
-/
import Derived.Test.YtopdjebnfhfpcaaDoorNum
import Derived.Test.YtopdjebnfhfpcaaDoorCal
namespace Go.Proofs.YtopdjebnfhfpcaaDoor
open Go.RowKit NB
namespace Civ

theorem Leap (y : Int) (w : World) : Calls Tryd.prog 96 #[.int .i64 y] w fun e w' => e = .returned (.bool (Cal.leap y)) ∧ w = w' := by
  have hA := Pl.and3 y
  have hB := Pl.and15 y
  have hC : (y.tmod 25 == 0) = decide (y % 25 = 0) := by
    by_cases h : y % 25 = 0
    · simp [h, Pl.tmod_ex y 25 h]
    · have : y.tmod 25 ≠ 0 := by
        intro h'; exact h (Int.emod_eq_zero_of_dvd (Int.dvd_of_tmod_eq_zero h'))
      simp [h, this]
  rw [Cal.leap_alt]
  by_cases h4 : y % 4 = 0
  · have t4 : (y % 4 == 0) = true := by simp [h4]
    by_cases h25 : y % 25 = 0
    · have t25 : (y.tmod 25 == 0) = true := by rw [hC]; simp [h25]
      have n25 : (y.tmod 25 != 0) = false := by rw [bne, t25]; rfl
      by_cases h16 : y % 16 = 0
      · have t16 : (y % 16 == 0) = true := by simp [h16]
        have hf : (decide (y % 4 = 0) && (decide (y % 25 ≠ 0) || decide (y % 16 = 0))) = true := by simp [h4, h16]
        rw [hf]
        clear hC h4 h25 h16 hf
        go_enter Tryd.func96, Tryd.ntmps96
        go_wp2
        go_ret
        exact ⟨rfl, rfl⟩
      · have t16 : (y % 16 == 0) = false := by simp [h16]
        have hf : (decide (y % 4 = 0) && (decide (y % 25 ≠ 0) || decide (y % 16 = 0))) = false := by simp [h25, h16]
        rw [hf]
        clear hC h4 h25 h16 hf
        go_enter Tryd.func96, Tryd.ntmps96
        go_wp2
        go_ret
        exact ⟨rfl, rfl⟩
    · have t25 : (y.tmod 25 == 0) = false := by rw [hC]; simp [h25]
      have n25 : (y.tmod 25 != 0) = true := by rw [bne, t25]; rfl
      have hf : (decide (y % 4 = 0) && (decide (y % 25 ≠ 0) || decide (y % 16 = 0))) = true := by simp [h4, h25]
      rw [hf]
      clear hC h4 h25 hf
      go_enter Tryd.func96, Tryd.ntmps96
      go_wp2
      go_ret
      exact ⟨rfl, rfl⟩
  · have t4 : (y % 4 == 0) = false := by simp [h4]
    have hf : (decide (y % 4 = 0) && (decide (y % 25 ≠ 0) || decide (y % 16 = 0))) = false := by simp [h4]
    rw [hf]
    clear hC h4 hf
    go_enter Tryd.func96, Tryd.ntmps96
    go_wp2
    go_ret
    exact ⟨rfl, rfl⟩

set_option maxHeartbeats 800000 in
theorem Len (y m : Int) (w : World) : Calls Tryd.prog 82 #[.int .i64 y, .int .i64 m] w fun e w' => e = .returned (.int .i64 (Cal.len y m)) ∧ w = w' := by
  by_cases h : m < 1 ∨ 12 < m
  · rw [Cal.len_out y m h]
    have e1 : (m == 1) = false := by simp; omega
    have e2 : (m == 2) = false := by simp; omega
    have e3 : (m == 3) = false := by simp; omega
    have e4 : (m == 4) = false := by simp; omega
    have e5 : (m == 5) = false := by simp; omega
    have e6 : (m == 6) = false := by simp; omega
    have e7 : (m == 7) = false := by simp; omega
    have e8 : (m == 8) = false := by simp; omega
    have e9 : (m == 9) = false := by simp; omega
    have e10 : (m == 10) = false := by simp; omega
    have e11 : (m == 11) = false := by simp; omega
    have e12 : (m == 12) = false := by simp; omega
    clear h
    go_enter Tryd.func82, Tryd.ntmps82
    go_wp2
    go_ret
    exact ⟨rfl, rfl⟩
  · by_cases h2 : m = 2
    · subst h2
      clear h
      cases hl : Cal.leap y
      all_goals
        have e : Cal.len y 2 = if Cal.leap y then 29 else 28 := by
          unfold Cal.len Cal.lp
          rw [if_neg (by decide), if_neg (by decide), if_pos rfl]
          split <;> rfl
        rw [e, hl]
        clear e
        have Hl := Lib.hid hl
        clear hl
        go_enter Tryd.func82, Tryd.ntmps82
        go_wp2_with (go_at_call 96; refine (Leap y _).mono ?_; rw [Hl.out]; rintro e w' ⟨rfl, rfl⟩)
        go_ret
        exact ⟨rfl, rfl⟩
    · rcases Cal.months (m := m) (by omega) (by omega) with rfl | rfl | rfl | rfl | rfl | rfl | rfl | rfl | rfl | rfl | rfl | rfl
      all_goals
        clear h
        first
          | (exfalso; exact h2 rfl)
          | (clear h2
             go_enter Tryd.func82, Tryd.ntmps82
             go_wp2
             go_ret
             exact ⟨rfl, rfl⟩)

/-- whether a date may be -/
def right (y m d : Int) : Bool := decide (-40000 ≤ y) && decide (y ≤ 40000) && decide (1 ≤ d) && decide (d ≤ Cal.len y m)

set_option maxHeartbeats 800000 in
theorem Right (y m d : Int) (w : World) : Calls Tryd.prog 55 #[.agg #[.int .i64 y, .int .i64 m, .int .i64 d]] w fun e w' => e = .returned (.bool (right y m d)) ∧ Below w.heap.size w w' := by
  unfold right
  by_cases h1 : -40000 ≤ y
  case neg =>
    have d1 : decide (-40000 ≤ y) = false := by simpa using h1
    rw [d1]
    go_enter Tryd.func55, Tryd.ntmps55
    go_wp2
    go_quiet (fail)
    go_wp2
    go_ret
    exact ⟨rfl, below_drewN ((Below.refl _ _).alloc (Nat.le_refl _) _) _⟩
  case pos =>
    by_cases h2 : y ≤ 40000
    case neg =>
      have d1 : decide (y ≤ 40000) = false := by simpa using h2
      rw [d1]
      go_enter Tryd.func55, Tryd.ntmps55
      go_wp2
      go_quiet (fail)
      go_wp2
      go_ret
      exact ⟨by simp, below_drewN ((Below.refl _ _).alloc (Nat.le_refl _) _) _⟩
    case pos =>
      by_cases h3 : 1 ≤ d
      case neg =>
        have d1 : decide (1 ≤ d) = false := by simpa using h3
        rw [d1]
        go_enter Tryd.func55, Tryd.ntmps55
        go_wp2
        go_quiet (fail)
        go_wp2
        go_ret
        exact ⟨by simp, below_drewN ((Below.refl _ _).alloc (Nat.le_refl _) _) _⟩
      case pos =>
        have hf : (decide (-40000 ≤ y) && decide (y ≤ 40000) && decide (1 ≤ d) && decide (d ≤ Cal.len y m)) = decide (d ≤ Cal.len y m) := by simp [h1, h2, h3]
        rw [hf]
        clear hf
        go_enter Tryd.func55, Tryd.ntmps55
        go_wp2
        go_quiet ((go_at_call 82; exact quiet_left (Len _ _ _)))
        go_wp2
        go_ret
        exact ⟨rfl, below_drewN ((Below.refl _ _).alloc (Nat.le_refl _) _) _⟩

theorem march (m : Int) (h0 : 0 ≤ m) (h1 : m ≤ 100) (w : World) : Calls Tryd.prog 88 #[.int .i64 m] w fun e w' => e = .returned (.int .i64 ((153 * m + 2) / 5)) ∧ w = w' := by
  go_enter Tryd.func88, Tryd.ntmps88
  go_wp2
  go_ret
  exact ⟨rfl, rfl⟩
end Civ
end Go.Proofs.YtopdjebnfhfpcaaDoor
