/-
  noontideref01: Div, Floor, Rest and Clamp, as the program runs them.
-/
import Derived.Test.YtopdjebnfhfpcaaGreatDoorNC
import Derived.Test.YtopdjebnfhfpcaaGreatDoorPl
import Derived.Test.YtopdjebnfhfpcaaGreatDoorProg
namespace Go.Proofs.YtopdjebnfhfpcaaGreatDoor
open Go.RowKit NB
namespace RNum
set_option maxHeartbeats 400000 in
theorem Div (a b : Int) (h0 : -9223372036854775808 < a) (h1 : a ≤ 9223372036854775807) (h2 : 1 ≤ b) (h3 : b ≤ 4611686018427387904) (w : World) :
    Calls Tryz.prog 108 #[.int .i64 a, .int .i64 b] w fun e w' => e = .returned (.tuple #[.int .i64 (a / b), .int .i64 (a % b), .int .i64 0]) ∧ w = w' := by
  have hr := Int.emod_nonneg a (show b ≠ 0 by omega)
  have hr2 := Int.emod_lt_of_pos a (show 0 < b by omega)
  have hg : (a == -9223372036854775808) = false := by simp; omega
  have hb0 : (b == 0) = false := by simp; omega
  have hb1 : (b == -1) = false := by simp; omega
  have db : decide (b < 0) = false := by simp; omega
  have dm : decide (a % b < 0) = false := by simp; omega
  by_cases ha : 0 ≤ a
  · have hq := Int.ediv_nonneg ha (show 0 ≤ b by omega)
    have hq2 : a / b ≤ a := Int.ediv_le_self _ ha
    by_cases hz : a % b = 0
    · have hzz : (a % b == 0) = true := by simp [hz]
      go_enter Tryz.func108, Tryz.ntmps108
      go_wp2
      go_ret3
      exact ⟨rfl, rfl⟩
    · have hzz : (a % b == 0) = false := by simp [hz]
      have hzn : (a % b != 0) = true := by simp [hz]
      go_enter Tryz.func108, Tryz.ntmps108
      go_wp2
      go_ret3
      exact ⟨rfl, rfl⟩
  · by_cases hz : a % b = 0
    · have e1 := Pl.tdiv_ex a b hz
      have e2 := Pl.tmod_ex a b hz
      rw [hz, ← e1]
      have hq : -9223372036854775808 ≤ a.tdiv b ∧ a.tdiv b ≤ 0 := by
        rw [e1]
        have h4 : b * (a / b) + a % b = a := Int.mul_ediv_add_emod a b
        rw [hz] at h4
        have h5 : a / b < 0 := Int.ediv_neg_of_neg_of_pos (by omega) (by omega)
        have h6 : (b - 1) * (a / b) ≤ 0 := Int.mul_nonpos_of_nonneg_of_nonpos (by omega) (by omega)
        have h7 : (b - 1) * (a / b) = b * (a / b) - a / b := by rw [Int.sub_mul, Int.one_mul]
        omega
      obtain ⟨hq1, hq2⟩ := hq
      have hm : a.tmod b = 0 := e2
      have Hz := Lib.hid hz
      have E1 := Lib.hid e1
      clear hz e1 e2
      go_enter Tryz.func108, Tryz.ntmps108
      go_wp2
      all_goals go_ret3
      all_goals exact ⟨rfl, rfl⟩
    · have e1 := Pl.tdiv_neg' a b (by omega) (by omega) hz
      have e2 := Pl.tmod_neg' a b (by omega) (by omega) hz
      have h4 : b * (a / b) + a % b = a := Int.mul_ediv_add_emod a b
      have h5 : a / b < 0 := Int.ediv_neg_of_neg_of_pos (by omega) (by omega)
      have h6 : (b - 1) * (a / b + 1) ≤ 0 := Int.mul_nonpos_of_nonneg_of_nonpos (by omega) (by omega)
      have h7 : (b - 1) * (a / b + 1) = b * (a / b) - a / b + b - 1 := by rw [Int.sub_mul, Int.one_mul, Int.mul_add]; omega
      have q1 : -9223372036854775808 ≤ a.tdiv b - 1 := by rw [e1]; omega
      have q2 : a.tdiv b ≤ 0 := by rw [e1]; omega
      have r1 : a.tmod b < 0 := by rw [e2]; omega
      have r2 : -4611686018427387904 ≤ a.tmod b := by rw [e2]; omega
      have hzz : (a.tmod b == 0) = false := by simp; omega
      have hzn : (a.tmod b != 0) = true := by simp; omega
      have dt : decide (a.tmod b < 0) = true := by simp; omega
      rw [show a / b = a.tdiv b - 1 by omega, show a % b = a.tmod b + b by omega]
      have E1 := Lib.hid e1
      have E2 := Lib.hid e2
      have H4 := Lib.hid h4
      have H7 := Lib.hid h7
      have HZ := Lib.hid hz
      clear e1 e2 h4 h5 h6 h7 hz hr hr2
      go_enter Tryz.func108, Tryz.ntmps108
      go_wp2
      all_goals go_ret3
      all_goals exact ⟨rfl, rfl⟩
theorem Floor (a b : Int) (h0 : -9223372036854775808 < a) (h1 : a ≤ 9223372036854775807) (h2 : 1 ≤ b) (h3 : b ≤ 4611686018427387904) (w : World) :
    Calls Tryz.prog 97 #[.int .i64 a, .int .i64 b] w fun e w' => e = .returned (.int .i64 (a / b)) ∧ w = w' := by
  have cd := Div a b h0 h1 h2 h3
  generalize a / b = q at *
  generalize a % b = r at *
  have Cd := Lib.hid cd
  clear cd
  go_enter Tryz.func97, Tryz.ntmps97
  go_wp2_with (go_at_call 108; (with_reducible refine (Cd.out _).mono ?_); rintro e w' ⟨rfl, rfl⟩)
  go_ret
  exact ⟨rfl, rfl⟩
theorem Rest (a b : Int) (h0 : -9223372036854775808 < a) (h1 : a ≤ 9223372036854775807) (h2 : 1 ≤ b) (h3 : b ≤ 4611686018427387904) (w : World) :
    Calls Tryz.prog 93 #[.int .i64 a, .int .i64 b] w fun e w' => e = .returned (.int .i64 (a % b)) ∧ w = w' := by
  have cd := Div a b h0 h1 h2 h3
  generalize a / b = q at *
  generalize a % b = r at *
  have Cd := Lib.hid cd
  clear cd
  go_enter Tryz.func93, Tryz.ntmps93
  go_wp2_with (go_at_call 108; (with_reducible refine (Cd.out _).mono ?_); rintro e w' ⟨rfl, rfl⟩)
  go_ret
  exact ⟨rfl, rfl⟩
theorem Clamp (n lo hi : Int) (w : World) : Calls Tryz.prog 54 #[.int .i64 n, .int .i64 lo, .int .i64 hi] w fun e w' => e = .returned (.int .i64 (if n < lo then lo else if hi < n then hi else n)) ∧ w = w' := by
  by_cases h1 : n < lo
  · rw [if_pos h1]
    go_enter Tryz.func54, Tryz.ntmps54
    go_wp2
    go_ret
    exact ⟨rfl, rfl⟩
  · rw [if_neg h1]
    by_cases h2 : hi < n
    · rw [if_pos h2]
      go_enter Tryz.func54, Tryz.ntmps54
      go_wp2
      go_ret
      exact ⟨rfl, rfl⟩
    · rw [if_neg h2]
      go_enter Tryz.func54, Tryz.ntmps54
      go_wp2
      go_ret
      exact ⟨rfl, rfl⟩
end RNum
end Go.Proofs.YtopdjebnfhfpcaaGreatDoor
