import Derived.Test.YtkpjhgkmjcdobaaGreatDoorG6
import Derived.Test.YtkpjhgkmjcdobaaGreatDoorG1
import Derived.Test.YtkpjhgkmjcdobaaGreatDoorProg
import Derived.Test.YtkpjhgkmjcdobaaGreatDoorG7
import Derived.Test.YtkpjhgkmjcdobaaGreatDoorG3
/-
  noontideref01: Div, Floor, Rest and Clamp, as the program runs them.
-/
namespace Go.Proofs.YtkpjhgkmjcdobaaGreatDoor
open Go.RowKit NB
namespace RNum
set_option maxHeartbeats 400000 in
theorem Div (a b : Int) (h0 : -9223372036854775808 < a) (h1 : a ≤ 9223372036854775807) (h2 : 1 ≤ b) (h3 : b ≤ 4611686018427387904) (w : World) :
    Calls Tryz.prog 169 #[.int .i64 a, .int .i64 b] w fun e w' => e = .returned (.tuple #[.int .i64 (a / b), .int .i64 (a % b), .int .i64 0]) ∧ w = w' := by
  have hr := Int.emod_nonneg a (show b ≠ 0 by omega)
  have hr2 := Int.emod_lt_of_pos a (show 0 < b by omega)
  have hg : (a == -9223372036854775808) = false := by simp; omega
  have hb0 : (b == 0) = false := by simp; omega
  have hb1 : (b == -1) = false := by simp; omega
  have db : decide (b < 0) = false := by simp; omega
  have dm : decide (a % b < 0) = false := by simp; omega
  by_cases ha : 0 ≤ a
  · have hq := Int.ediv_nonneg ha (show 0 ≤ b by omega)
    have hq2 : a / b ≤ a := Int.ediv_le_self _ ha
    by_cases hz : a % b = 0
    · have hzz : (a % b == 0) = true := by simp [hz]
      go_enter Tryz.func169, Tryz.ntmps169
      go_wp2
      go_ret3
      exact ⟨rfl, rfl⟩
    · have hzz : (a % b == 0) = false := by simp [hz]
      have hzn : (a % b != 0) = true := by simp [hz]
      go_enter Tryz.func169, Tryz.ntmps169
      go_wp2
      go_ret3
      exact ⟨rfl, rfl⟩
  · by_cases hz : a % b = 0
    · have e1 := Pl.tdiv_ex a b hz
      have e2 := Pl.tmod_ex a b hz
      rw [hz, ← e1]
      have hq : -9223372036854775808 ≤ a.tdiv b ∧ a.tdiv b ≤ 0 := by
        rw [e1]
        have h4 : b * (a / b) + a % b = a := Int.mul_ediv_add_emod a b
        rw [hz] at h4
        have h5 : a / b < 0 := Int.ediv_neg_of_neg_of_pos (by omega) (by omega)
        have h6 : (b - 1) * (a / b) ≤ 0 := Int.mul_nonpos_of_nonneg_of_nonpos (by omega) (by omega)
        have h7 : (b - 1) * (a / b) = b * (a / b) - a / b := by rw [Int.sub_mul, Int.one_mul]
        omega
      obtain ⟨hq1, hq2⟩ := hq
      have hm : a.tmod b = 0 := e2
      have Hz := Lib.hid hz
      have E1 := Lib.hid e1
      clear hz e1 e2
      go_enter Tryz.func169, Tryz.ntmps169
      go_wp2
      all_goals go_ret3
      all_goals exact ⟨rfl, rfl⟩
    · have e1 := Pl.tdiv_neg' a b (by omega) (by omega) hz
      have e2 := Pl.tmod_neg' a b (by omega) (by omega) hz
      have h4 : b * (a / b) + a % b = a := Int.mul_ediv_add_emod a b
      have h5 : a / b < 0 := Int.ediv_neg_of_neg_of_pos (by omega) (by omega)
      have h6 : (b - 1) * (a / b + 1) ≤ 0 := Int.mul_nonpos_of_nonneg_of_nonpos (by omega) (by omega)
      have h7 : (b - 1) * (a / b + 1) = b * (a / b) - a / b + b - 1 := by rw [Int.sub_mul, Int.one_mul, Int.mul_add]; omega
      have q1 : -9223372036854775808 ≤ a.tdiv b - 1 := by rw [e1]; omega
      have q2 : a.tdiv b ≤ 0 := by rw [e1]; omega
      have r1 : a.tmod b < 0 := by rw [e2]; omega
      have r2 : -4611686018427387904 ≤ a.tmod b := by rw [e2]; omega
      have hzz : (a.tmod b == 0) = false := by simp; omega
      have hzn : (a.tmod b != 0) = true := by simp; omega
      have dt : decide (a.tmod b < 0) = true := by simp; omega
      rw [show a / b = a.tdiv b - 1 by omega, show a % b = a.tmod b + b by omega]
      have E1 := Lib.hid e1
      have E2 := Lib.hid e2
      have H4 := Lib.hid h4
      have H7 := Lib.hid h7
      have HZ := Lib.hid hz
      clear e1 e2 h4 h5 h6 h7 hz hr hr2
      go_enter Tryz.func169, Tryz.ntmps169
      go_wp2
      all_goals go_ret3
      all_goals exact ⟨rfl, rfl⟩
theorem Floor (a b : Int) (h0 : -9223372036854775808 < a) (h1 : a ≤ 9223372036854775807) (h2 : 1 ≤ b) (h3 : b ≤ 4611686018427387904) (w : World) :
    Calls Tryz.prog 181 #[.int .i64 a, .int .i64 b] w fun e w' => e = .returned (.int .i64 (a / b)) ∧ w = w' := by
  have cd := Div a b h0 h1 h2 h3
  generalize a / b = q at *
  generalize a % b = r at *
  have Cd := Lib.hid cd
  clear cd
  go_enter Tryz.func181, Tryz.ntmps181
  go_wp2_with (go_at_call 169; (with_reducible refine (Cd.out _).mono ?_); rintro e w' ⟨rfl, rfl⟩)
  go_ret
  exact ⟨rfl, rfl⟩
theorem Rest (a b : Int) (h0 : -9223372036854775808 < a) (h1 : a ≤ 9223372036854775807) (h2 : 1 ≤ b) (h3 : b ≤ 4611686018427387904) (w : World) :
    Calls Tryz.prog 132 #[.int .i64 a, .int .i64 b] w fun e w' => e = .returned (.int .i64 (a % b)) ∧ w = w' := by
  have cd := Div a b h0 h1 h2 h3
  generalize a / b = q at *
  generalize a % b = r at *
  have Cd := Lib.hid cd
  clear cd
  go_enter Tryz.func132, Tryz.ntmps132
  go_wp2_with (go_at_call 169; (with_reducible refine (Cd.out _).mono ?_); rintro e w' ⟨rfl, rfl⟩)
  go_ret
  exact ⟨rfl, rfl⟩
theorem Clamp (n lo hi : Int) (w : World) : Calls Tryz.prog 102 #[.int .i64 n, .int .i64 lo, .int .i64 hi] w fun e w' => e = .returned (.int .i64 (if n < lo then lo else if hi < n then hi else n)) ∧ w = w' := by
  by_cases h1 : n < lo
  · rw [if_pos h1]
    go_enter Tryz.func102, Tryz.ntmps102
    go_wp2
    go_ret
    exact ⟨rfl, rfl⟩
  · rw [if_neg h1]
    by_cases h2 : hi < n
    · rw [if_pos h2]
      go_enter Tryz.func102, Tryz.ntmps102
      go_wp2
      go_ret
      exact ⟨rfl, rfl⟩
    · rw [if_neg h2]
      go_enter Tryz.func102, Tryz.ntmps102
      go_wp2
      go_ret
      exact ⟨rfl, rfl⟩
end RNum
end Go.Proofs.YtkpjhgkmjcdobaaGreatDoor
/-
  noontideref03: what its functions give, as the program runs them.
-/
namespace Go.Proofs.YtkpjhgkmjcdobaaGreatDoor
open Go.RowKit NB
namespace RCiv
theorem tmod_beq (y k : Int) (_hk : 0 < k) : (y.tmod k == 0) = decide (y % k = 0) := by
  by_cases h : y % k = 0
  · simp [h, Pl.tmod_ex y k h]
  · have : y.tmod k ≠ 0 := fun h' => h (Int.emod_eq_zero_of_dvd (Int.dvd_of_tmod_eq_zero h'))
    simp [h, this]
theorem Leap (y : Int) (w : World) : Calls Tryz.prog 131 #[.int .i64 y] w fun e w' => e = .returned (.bool (Cal.leap y)) ∧ w = w' := by
  have e4 := tmod_beq y 4 (by omega)
  have e100 := tmod_beq y 100 (by omega)
  have e400 := tmod_beq y 400 (by omega)
  unfold Cal.leap
  cases h4 : decide (y % 4 = 0) <;> cases h100 : decide (y % 100 = 0) <;> cases h400 : decide (y % 400 = 0)
  all_goals first
    | (exfalso; have a1 := of_decide_eq_false h4; have a2 := of_decide_eq_true h400; omega)
    | (
      rw [h4] at e4
      rw [h100] at e100
      rw [h400] at e400
      have n100 : (y.tmod 100 != 0) = !(y.tmod 100 == 0) := rfl
      rw [e100] at n100
      clear h4 h100 h400
      simp only [Bool.not_true, Bool.not_false, Bool.and_true, Bool.and_false, Bool.or_true, Bool.or_false] at n100 ⊢
      go_enter Tryz.func131, Tryz.ntmps131
      go_wp2
      go_ret
      exact ⟨rfl, rfl⟩)
set_option maxHeartbeats 1600000 in
theorem Len (y m : Int) (w : World) : Calls Tryz.prog 85 #[.int .i64 y, .int .i64 m] w fun e w' => e = .returned (.int .i64 (Cal.len y m)) ∧ Below w.heap.size w w' := by
  by_cases h : m < 1 ∨ 12 < m
  · rw [Cal.len_out y m h]
    rcases h with h | h
    all_goals
      go_enter Tryz.func85, Tryz.ntmps85
      go_wp2
      go_ret
      exact ⟨rfl, by repeat (first | (with_reducible exact Below.refl _ _) | (with_reducible assumption) | (with_reducible refine ba ?_) | (with_reducible refine bd ?_) | (with_reducible refine bdn ?_ _) | (with_reducible refine bset ?_ (by first | exact Nat.le_refl _ | omega | (simp; done) | (simp; omega))) | (with_reducible refine bt ?_ (by with_reducible assumption)))⟩
  · by_cases h2 : m = 2
    · subst h2
      clear h
      cases hl : Cal.leap y
      all_goals
        have e : Cal.len y 2 = if Cal.leap y then 29 else 28 := by
          unfold Cal.len Cal.lp
          rw [if_neg (by decide), if_neg (by decide), if_pos rfl]
          split <;> rfl
        rw [e, hl]
        clear e
        have Hl := Lib.hid hl
        clear hl
        go_enter Tryz.func85, Tryz.ntmps85
        go_wp2_with (go_at_call 131; refine (Leap y _).mono ?_; rw [Hl.out]; rintro e w' ⟨rfl, rfl⟩)
        go_ret
        exact ⟨rfl, by repeat (first | (with_reducible exact Below.refl _ _) | (with_reducible assumption) | (with_reducible refine ba ?_) | (with_reducible refine bd ?_) | (with_reducible refine bdn ?_ _) | (with_reducible refine bset ?_ (by first | exact Nat.le_refl _ | omega | (simp; done) | (simp; omega))) | (with_reducible refine bt ?_ (by with_reducible assumption)))⟩
    · rcases Cal.months (m := m) (by omega) (by omega) with rfl | rfl | rfl | rfl | rfl | rfl | rfl | rfl | rfl | rfl | rfl | rfl
      all_goals
        clear h
        first
          | (exfalso; exact h2 rfl)
          | (clear h2
             go_enter Tryz.func85, Tryz.ntmps85
             go_wp2
             go_ret
             exact ⟨rfl, by repeat (first | (with_reducible exact Below.refl _ _) | (with_reducible assumption) | (with_reducible refine ba ?_) | (with_reducible refine bd ?_) | (with_reducible refine bdn ?_ _) | (with_reducible refine bset ?_ (by first | exact Nat.le_refl _ | omega | (simp; done) | (simp; omega))) | (with_reducible refine bt ?_ (by with_reducible assumption)))⟩)
theorem leaps (y : Int) (h0 : -100000 ≤ y) (h1 : y ≤ 100000) (w : World) : Calls Tryz.prog 168 #[.int .i64 y] w fun e w' => e = .returned (.int .i64 (Cal.leaps y)) ∧ w = w' := by
  have c4 := RNum.Floor y 4 (by omega) (by omega) (by omega) (by omega)
  have c100 := RNum.Floor y 100 (by omega) (by omega) (by omega) (by omega)
  have c400 := RNum.Floor y 400 (by omega) (by omega) (by omega) (by omega)
  unfold Cal.leaps
  have C4 := Lib.hid c4
  have C100 := Lib.hid c100
  have C400 := Lib.hid c400
  clear c4 c100 c400
  go_enter Tryz.func168, Tryz.ntmps168
  go_wp2_with (first | (go_at_call 181; (with_reducible refine (C4.out _).mono ?_); rintro e w' ⟨rfl, rfl⟩) | (go_at_call 181; (with_reducible refine (C100.out _).mono ?_); rintro e w' ⟨rfl, rfl⟩) | (go_at_call 181; (with_reducible refine (C400.out _).mono ?_); rintro e w' ⟨rfl, rfl⟩))
  go_ret
  exact ⟨rfl, rfl⟩
theorem Ahead (y : Int) (h0 : -50000 ≤ y) (h1 : y ≤ 50000) (w : World) : Calls Tryz.prog 130 #[.int .i64 y] w fun e w' => e = .returned (.int .i64 (Cal.ahead y)) ∧ w = w' := by
  have c1 := leaps (y - 1) (by omega) (by omega)
  have c2 := leaps 1969 (by omega) (by omega)
  unfold Cal.ahead
  have b1 : -100000 ≤ Cal.leaps (y - 1) ∧ Cal.leaps (y - 1) ≤ 100000 := by unfold Cal.leaps; omega
  have b2 : -100000 ≤ Cal.leaps 1969 ∧ Cal.leaps 1969 ≤ 100000 := by unfold Cal.leaps; omega
  have C1 := Lib.hid c1
  have C2 := Lib.hid c2
  clear c1 c2
  go_enter Tryz.func130, Tryz.ntmps130
  go_wp2_with (first | (go_at_call 168; (with_reducible refine (C1.out _).mono ?_); rintro e w' ⟨rfl, rfl⟩) | (go_at_call 168; (with_reducible refine (C2.out _).mono ?_); rintro e w' ⟨rfl, rfl⟩))
  go_ret
  exact ⟨rfl, rfl⟩
end RCiv
end Go.Proofs.YtkpjhgkmjcdobaaGreatDoor
