import Derived.Test.YtkpjhgkmjcdobaaGreatDoorG1
import Derived.Test.YtkpjhgkmjcdobaaGreatDoorProg
import Derived.Test.YtkpjhgkmjcdobaaGreatDoorG4
/-
  num: what its functions give, as the program runs them.
-/
namespace Go.Proofs.YtkpjhgkmjcdobaaGreatDoor
open Go.RowKit NB
namespace Num

theorem div_tail (w : World) (n : Nat) : Below w.heap.size w (w.drewN n) := ⟨rfl, rfl, rfl, Nat.le_refl _, fun _ _ => rfl⟩

set_option maxHeartbeats 400000 in
theorem Div (a b : Int) (h0 : -9223372036854775808 < a) (h1 : a ≤ 9223372036854775807) (h2 : 1 ≤ b) (h3 : b ≤ 4611686018427387904) (w : World) :
    Calls Tryz.prog 165 #[.int .i64 a, .int .i64 b] w fun e w' => e = .returned (.tuple #[.int .i64 (a / b), .int .i64 (a % b), .int .i64 0]) ∧ Below w.heap.size w w' := by
  have hr := Int.emod_nonneg a (show b ≠ 0 by omega)
  have hr2 := Int.emod_lt_of_pos a (show 0 < b by omega)
  have hg : (a == -9223372036854775808) = false := by simp; omega
  have hb0 : (b == 0) = false := by simp; omega
  have hb1 : (b == -1) = false := by simp; omega
  by_cases ha : 0 ≤ a
  · have hq := Int.ediv_nonneg ha (show 0 ≤ b by omega)
    have hq2 : a / b ≤ a := Int.ediv_le_self _ ha
    have hx : ¬ bits .xor .i64 (a % b) b < 0 := by
      rw [Pl.xor_neg _ _ (by omega) (by omega) (by omega) (by omega)]; omega
    by_cases hz : a % b = 0
    · have hzz : (a % b == 0) = true := by simp [hz]
      clear hx
      go_enter Tryz.func165, Tryz.ntmps165
      go_wp2
      go_quiet (fail)
      go_wp2
      go_ret3
      exact ⟨rfl, div_tail _ _⟩
    · have hzz : (a % b == 0) = false := by simp [hz]
      have hzn : (a % b != 0) = true := by simp [hz]
      go_enter Tryz.func165, Tryz.ntmps165
      go_wp2
      go_quiet (fail)
      go_wp2
      go_ret3
      exact ⟨rfl, div_tail _ _⟩
  · by_cases hz : a % b = 0
    · have e1 := Pl.tdiv_ex a b hz
      have e2 := Pl.tmod_ex a b hz
      rw [hz, ← e1]
      have hq : -9223372036854775808 ≤ a.tdiv b ∧ a.tdiv b ≤ 0 := by
        rw [e1]
        have h4 : b * (a / b) + a % b = a := Int.mul_ediv_add_emod a b
        rw [hz] at h4
        have h5 : a / b < 0 := Int.ediv_neg_of_neg_of_pos (by omega) (by omega)
        have h6 : (b - 1) * (a / b) ≤ 0 := Int.mul_nonpos_of_nonneg_of_nonpos (by omega) (by omega)
        have h7 : (b - 1) * (a / b) = b * (a / b) - a / b := by rw [Int.sub_mul, Int.one_mul]
        omega
      obtain ⟨hq1, hq2⟩ := hq
      have hm : a.tmod b = 0 := e2
      have Hz := Lib.hid hz
      have E1 := Lib.hid e1
      clear hz e1 e2
      go_enter Tryz.func165, Tryz.ntmps165
      go_wp2
      all_goals go_quiet (fail)
      all_goals go_wp2
      all_goals go_ret3
      all_goals exact ⟨rfl, div_tail _ _⟩
    · have e1 := Pl.tdiv_neg' a b (by omega) (by omega) hz
      have e2 := Pl.tmod_neg' a b (by omega) (by omega) hz
      have h4 : b * (a / b) + a % b = a := Int.mul_ediv_add_emod a b
      have h5 : a / b < 0 := Int.ediv_neg_of_neg_of_pos (by omega) (by omega)
      have h6 : (b - 1) * (a / b + 1) ≤ 0 := Int.mul_nonpos_of_nonneg_of_nonpos (by omega) (by omega)
      have h7 : (b - 1) * (a / b + 1) = b * (a / b) - a / b + b - 1 := by rw [Int.sub_mul, Int.one_mul, Int.mul_add]; omega
      have q1 : -9223372036854775808 ≤ a.tdiv b - 1 := by rw [e1]; omega
      have q2 : a.tdiv b ≤ 0 := by rw [e1]; omega
      have r1 : a.tmod b < 0 := by rw [e2]; omega
      have r2 : -4611686018427387904 ≤ a.tmod b := by rw [e2]; omega
      have hx : bits .xor .i64 (a.tmod b) b < 0 := by
        rw [Pl.xor_neg _ _ (by omega) (by omega) (by omega) (by omega)]; omega
      have hzz : (a.tmod b == 0) = false := by simp; omega
      have hzn : (a.tmod b != 0) = true := by simp; omega
      rw [show a / b = a.tdiv b - 1 by omega, show a % b = a.tmod b + b by omega]
      have E1 := Lib.hid e1
      have E2 := Lib.hid e2
      have H4 := Lib.hid h4
      have H7 := Lib.hid h7
      have HZ := Lib.hid hz
      clear e1 e2 h4 h5 h6 h7 hz hr hr2
      go_enter Tryz.func165, Tryz.ntmps165
      go_wp2
      all_goals go_quiet (fail)
      all_goals go_wp2
      all_goals go_ret3
      all_goals exact ⟨rfl, div_tail _ _⟩

theorem Clamp (n lo hi : Int) (w : World) : Calls Tryz.prog 135 #[.int .i64 n, .int .i64 lo, .int .i64 hi] w fun e w' => e = .returned (.int .i64 (if n < lo then lo else if hi < n then hi else n)) ∧ w = w' := by
  by_cases h1 : n < lo
  · rw [if_pos h1]
    go_enter Tryz.func135, Tryz.ntmps135
    go_wp2
    go_ret
    exact ⟨rfl, rfl⟩
  · rw [if_neg h1]
    by_cases h2 : hi < n
    · rw [if_pos h2]
      go_enter Tryz.func135, Tryz.ntmps135
      go_wp2
      go_ret
      exact ⟨rfl, rfl⟩
    · rw [if_neg h2]
      go_enter Tryz.func135, Tryz.ntmps135
      go_wp2
      go_ret
      exact ⟨rfl, rfl⟩
end Num
end Go.Proofs.YtkpjhgkmjcdobaaGreatDoor
/-
  civil: what its functions give, as the program runs them.
-/
namespace Go.Proofs.YtkpjhgkmjcdobaaGreatDoor
open Go.RowKit NB
namespace Civ

theorem Leap (y : Int) (w : World) : Calls Tryz.prog 126 #[.int .i64 y] w fun e w' => e = .returned (.bool (Cal.leap y)) ∧ w = w' := by
  have hA := Pl.and3 y
  have hB := Pl.and15 y
  have hC : (y.tmod 25 == 0) = decide (y % 25 = 0) := by
    by_cases h : y % 25 = 0
    · simp [h, Pl.tmod_ex y 25 h]
    · have : y.tmod 25 ≠ 0 := by
        intro h'; exact h (Int.emod_eq_zero_of_dvd (Int.dvd_of_tmod_eq_zero h'))
      simp [h, this]
  rw [Cal.leap_alt]
  by_cases h4 : y % 4 = 0
  · have t4 : (y % 4 == 0) = true := by simp [h4]
    by_cases h25 : y % 25 = 0
    · have t25 : (y.tmod 25 == 0) = true := by rw [hC]; simp [h25]
      have n25 : (y.tmod 25 != 0) = false := by rw [bne, t25]; rfl
      by_cases h16 : y % 16 = 0
      · have t16 : (y % 16 == 0) = true := by simp [h16]
        have hf : (decide (y % 4 = 0) && (decide (y % 25 ≠ 0) || decide (y % 16 = 0))) = true := by simp [h4, h16]
        rw [hf]
        clear hC h4 h25 h16 hf
        go_enter Tryz.func126, Tryz.ntmps126
        go_wp2
        go_ret
        exact ⟨rfl, rfl⟩
      · have t16 : (y % 16 == 0) = false := by simp [h16]
        have hf : (decide (y % 4 = 0) && (decide (y % 25 ≠ 0) || decide (y % 16 = 0))) = false := by simp [h25, h16]
        rw [hf]
        clear hC h4 h25 h16 hf
        go_enter Tryz.func126, Tryz.ntmps126
        go_wp2
        go_ret
        exact ⟨rfl, rfl⟩
    · have t25 : (y.tmod 25 == 0) = false := by rw [hC]; simp [h25]
      have n25 : (y.tmod 25 != 0) = true := by rw [bne, t25]; rfl
      have hf : (decide (y % 4 = 0) && (decide (y % 25 ≠ 0) || decide (y % 16 = 0))) = true := by simp [h4, h25]
      rw [hf]
      clear hC h4 h25 hf
      go_enter Tryz.func126, Tryz.ntmps126
      go_wp2
      go_ret
      exact ⟨rfl, rfl⟩
  · have t4 : (y % 4 == 0) = false := by simp [h4]
    have hf : (decide (y % 4 = 0) && (decide (y % 25 ≠ 0) || decide (y % 16 = 0))) = false := by simp [h4]
    rw [hf]
    clear hC h4 hf
    go_enter Tryz.func126, Tryz.ntmps126
    go_wp2
    go_ret
    exact ⟨rfl, rfl⟩

set_option maxHeartbeats 800000 in
theorem Len (y m : Int) (w : World) : Calls Tryz.prog 80 #[.int .i64 y, .int .i64 m] w fun e w' => e = .returned (.int .i64 (Cal.len y m)) ∧ w = w' := by
  by_cases h : m < 1 ∨ 12 < m
  · rw [Cal.len_out y m h]
    have e1 : (m == 1) = false := by simp; omega
    have e2 : (m == 2) = false := by simp; omega
    have e3 : (m == 3) = false := by simp; omega
    have e4 : (m == 4) = false := by simp; omega
    have e5 : (m == 5) = false := by simp; omega
    have e6 : (m == 6) = false := by simp; omega
    have e7 : (m == 7) = false := by simp; omega
    have e8 : (m == 8) = false := by simp; omega
    have e9 : (m == 9) = false := by simp; omega
    have e10 : (m == 10) = false := by simp; omega
    have e11 : (m == 11) = false := by simp; omega
    have e12 : (m == 12) = false := by simp; omega
    clear h
    go_enter Tryz.func80, Tryz.ntmps80
    go_wp2
    go_ret
    exact ⟨rfl, rfl⟩
  · by_cases h2 : m = 2
    · subst h2
      clear h
      cases hl : Cal.leap y
      all_goals
        have e : Cal.len y 2 = if Cal.leap y then 29 else 28 := by
          unfold Cal.len Cal.lp
          rw [if_neg (by decide), if_neg (by decide), if_pos rfl]
          split <;> rfl
        rw [e, hl]
        clear e
        have Hl := Lib.hid hl
        clear hl
        go_enter Tryz.func80, Tryz.ntmps80
        go_wp2_with (go_at_call 126; refine (Leap y _).mono ?_; rw [Hl.out]; rintro e w' ⟨rfl, rfl⟩)
        go_ret
        exact ⟨rfl, rfl⟩
    · rcases Cal.months (m := m) (by omega) (by omega) with rfl | rfl | rfl | rfl | rfl | rfl | rfl | rfl | rfl | rfl | rfl | rfl
      all_goals
        clear h
        first
          | (exfalso; exact h2 rfl)
          | (clear h2
             go_enter Tryz.func80, Tryz.ntmps80
             go_wp2
             go_ret
             exact ⟨rfl, rfl⟩)

/-- whether a date may be -/
def right (y m d : Int) : Bool := decide (-40000 ≤ y) && decide (y ≤ 40000) && decide (1 ≤ d) && decide (d ≤ Cal.len y m)

set_option maxHeartbeats 800000 in
theorem Right (y m d : Int) (w : World) : Calls Tryz.prog 124 #[.agg #[.int .i64 y, .int .i64 m, .int .i64 d]] w fun e w' => e = .returned (.bool (right y m d)) ∧ Below w.heap.size w w' := by
  unfold right
  by_cases h1 : -40000 ≤ y
  case neg =>
    have d1 : decide (-40000 ≤ y) = false := by simpa using h1
    rw [d1]
    go_enter Tryz.func124, Tryz.ntmps124
    go_wp2
    go_quiet (fail)
    go_wp2
    go_ret
    exact ⟨rfl, below_drewN ((Below.refl _ _).alloc (Nat.le_refl _) _) _⟩
  case pos =>
    by_cases h2 : y ≤ 40000
    case neg =>
      have d1 : decide (y ≤ 40000) = false := by simpa using h2
      rw [d1]
      go_enter Tryz.func124, Tryz.ntmps124
      go_wp2
      go_quiet (fail)
      go_wp2
      go_ret
      exact ⟨by simp, below_drewN ((Below.refl _ _).alloc (Nat.le_refl _) _) _⟩
    case pos =>
      by_cases h3 : 1 ≤ d
      case neg =>
        have d1 : decide (1 ≤ d) = false := by simpa using h3
        rw [d1]
        go_enter Tryz.func124, Tryz.ntmps124
        go_wp2
        go_quiet (fail)
        go_wp2
        go_ret
        exact ⟨by simp, below_drewN ((Below.refl _ _).alloc (Nat.le_refl _) _) _⟩
      case pos =>
        have hf : (decide (-40000 ≤ y) && decide (y ≤ 40000) && decide (1 ≤ d) && decide (d ≤ Cal.len y m)) = decide (d ≤ Cal.len y m) := by simp [h1, h2, h3]
        rw [hf]
        clear hf
        go_enter Tryz.func124, Tryz.ntmps124
        go_wp2
        go_quiet ((go_at_call 80; exact quiet_left (Len _ _ _)))
        go_wp2
        go_ret
        exact ⟨rfl, below_drewN ((Below.refl _ _).alloc (Nat.le_refl _) _) _⟩

theorem march (m : Int) (h0 : 0 ≤ m) (h1 : m ≤ 100) (w : World) : Calls Tryz.prog 166 #[.int .i64 m] w fun e w' => e = .returned (.int .i64 ((153 * m + 2) / 5)) ∧ w = w' := by
  go_enter Tryz.func166, Tryz.ntmps166
  go_wp2
  go_ret
  exact ⟨rfl, rfl⟩
end Civ
end Go.Proofs.YtkpjhgkmjcdobaaGreatDoor
/-
  noontideref03: what its functions give, as the program runs them.
-/
namespace Go.Proofs.YtkpjhgkmjcdobaaGreatDoor
open Go.RowKit NB
namespace RCiv
theorem tmod_beq (y k : Int) (_hk : 0 < k) : (y.tmod k == 0) = decide (y % k = 0) := by
  by_cases h : y % k = 0
  · simp [h, Pl.tmod_ex y k h]
  · have : y.tmod k ≠ 0 := fun h' => h (Int.emod_eq_zero_of_dvd (Int.dvd_of_tmod_eq_zero h'))
    simp [h, this]
theorem Leap (y : Int) (w : World) : Calls Tryz.prog 131 #[.int .i64 y] w fun e w' => e = .returned (.bool (Cal.leap y)) ∧ w = w' := by
  have e4 := tmod_beq y 4 (by omega)
  have e100 := tmod_beq y 100 (by omega)
  have e400 := tmod_beq y 400 (by omega)
  unfold Cal.leap
  cases h4 : decide (y % 4 = 0) <;> cases h100 : decide (y % 100 = 0) <;> cases h400 : decide (y % 400 = 0)
  all_goals first
    | (exfalso; have a1 := of_decide_eq_false h4; have a2 := of_decide_eq_true h400; omega)
    | (
      rw [h4] at e4
      rw [h100] at e100
      rw [h400] at e400
      have n100 : (y.tmod 100 != 0) = !(y.tmod 100 == 0) := rfl
      rw [e100] at n100
      clear h4 h100 h400
      simp only [Bool.not_true, Bool.not_false, Bool.and_true, Bool.and_false, Bool.or_true, Bool.or_false] at n100 ⊢
      go_enter Tryz.func131, Tryz.ntmps131
      go_wp2
      go_ret
      exact ⟨rfl, rfl⟩)
set_option maxHeartbeats 1600000 in
theorem Len (y m : Int) (w : World) : Calls Tryz.prog 85 #[.int .i64 y, .int .i64 m] w fun e w' => e = .returned (.int .i64 (Cal.len y m)) ∧ Below w.heap.size w w' := by
  by_cases h : m < 1 ∨ 12 < m
  · rw [Cal.len_out y m h]
    rcases h with h | h
    all_goals
      go_enter Tryz.func85, Tryz.ntmps85
      go_wp2
      go_ret
      exact ⟨rfl, by repeat (first | (with_reducible exact Below.refl _ _) | (with_reducible assumption) | (with_reducible refine ba ?_) | (with_reducible refine bd ?_) | (with_reducible refine bdn ?_ _) | (with_reducible refine bset ?_ (by first | exact Nat.le_refl _ | omega | (simp; done) | (simp; omega))) | (with_reducible refine bt ?_ (by with_reducible assumption)))⟩
  · by_cases h2 : m = 2
    · subst h2
      clear h
      cases hl : Cal.leap y
      all_goals
        have e : Cal.len y 2 = if Cal.leap y then 29 else 28 := by
          unfold Cal.len Cal.lp
          rw [if_neg (by decide), if_neg (by decide), if_pos rfl]
          split <;> rfl
        rw [e, hl]
        clear e
        have Hl := Lib.hid hl
        clear hl
        go_enter Tryz.func85, Tryz.ntmps85
        go_wp2_with (go_at_call 131; refine (Leap y _).mono ?_; rw [Hl.out]; rintro e w' ⟨rfl, rfl⟩)
        go_ret
        exact ⟨rfl, by repeat (first | (with_reducible exact Below.refl _ _) | (with_reducible assumption) | (with_reducible refine ba ?_) | (with_reducible refine bd ?_) | (with_reducible refine bdn ?_ _) | (with_reducible refine bset ?_ (by first | exact Nat.le_refl _ | omega | (simp; done) | (simp; omega))) | (with_reducible refine bt ?_ (by with_reducible assumption)))⟩
    · rcases Cal.months (m := m) (by omega) (by omega) with rfl | rfl | rfl | rfl | rfl | rfl | rfl | rfl | rfl | rfl | rfl | rfl
      all_goals
        clear h
        first
          | (exfalso; exact h2 rfl)
          | (clear h2
             go_enter Tryz.func85, Tryz.ntmps85
             go_wp2
             go_ret
             exact ⟨rfl, by repeat (first | (with_reducible exact Below.refl _ _) | (with_reducible assumption) | (with_reducible refine ba ?_) | (with_reducible refine bd ?_) | (with_reducible refine bdn ?_ _) | (with_reducible refine bset ?_ (by first | exact Nat.le_refl _ | omega | (simp; done) | (simp; omega))) | (with_reducible refine bt ?_ (by with_reducible assumption)))⟩)
theorem leaps (y : Int) (h0 : -100000 ≤ y) (h1 : y ≤ 100000) (w : World) : Calls Tryz.prog 168 #[.int .i64 y] w fun e w' => e = .returned (.int .i64 (Cal.leaps y)) ∧ w = w' := by
  have c4 := RNum.Floor y 4 (by omega) (by omega) (by omega) (by omega)
  have c100 := RNum.Floor y 100 (by omega) (by omega) (by omega) (by omega)
  have c400 := RNum.Floor y 400 (by omega) (by omega) (by omega) (by omega)
  unfold Cal.leaps
  have C4 := Lib.hid c4
  have C100 := Lib.hid c100
  have C400 := Lib.hid c400
  clear c4 c100 c400
  go_enter Tryz.func168, Tryz.ntmps168
  go_wp2_with (first | (go_at_call 181; (with_reducible refine (C4.out _).mono ?_); rintro e w' ⟨rfl, rfl⟩) | (go_at_call 181; (with_reducible refine (C100.out _).mono ?_); rintro e w' ⟨rfl, rfl⟩) | (go_at_call 181; (with_reducible refine (C400.out _).mono ?_); rintro e w' ⟨rfl, rfl⟩))
  go_ret
  exact ⟨rfl, rfl⟩
theorem Ahead (y : Int) (h0 : -50000 ≤ y) (h1 : y ≤ 50000) (w : World) : Calls Tryz.prog 130 #[.int .i64 y] w fun e w' => e = .returned (.int .i64 (Cal.ahead y)) ∧ w = w' := by
  have c1 := leaps (y - 1) (by omega) (by omega)
  have c2 := leaps 1969 (by omega) (by omega)
  unfold Cal.ahead
  have b1 : -100000 ≤ Cal.leaps (y - 1) ∧ Cal.leaps (y - 1) ≤ 100000 := by unfold Cal.leaps; omega
  have b2 : -100000 ≤ Cal.leaps 1969 ∧ Cal.leaps 1969 ≤ 100000 := by unfold Cal.leaps; omega
  have C1 := Lib.hid c1
  have C2 := Lib.hid c2
  clear c1 c2
  go_enter Tryz.func130, Tryz.ntmps130
  go_wp2_with (first | (go_at_call 168; (with_reducible refine (C1.out _).mono ?_); rintro e w' ⟨rfl, rfl⟩) | (go_at_call 168; (with_reducible refine (C2.out _).mono ?_); rintro e w' ⟨rfl, rfl⟩))
  go_ret
  exact ⟨rfl, rfl⟩
end RCiv
end Go.Proofs.YtkpjhgkmjcdobaaGreatDoor
/-
  civil, continued: numbers of dates.
-/
namespace Go.Proofs.YtkpjhgkmjcdobaaGreatDoor
open Go.RowKit NB
namespace Civ

set_option maxHeartbeats 800000 in
theorem number (y m d : Int) (h1 : -50000 ≤ y) (h2 : y ≤ 50000) (h3 : 1 ≤ m) (h4 : m ≤ 12) (h5 : 0 ≤ d) (h6 : d ≤ 100) (w : World) :
    Calls Tryz.prog 125 #[.agg #[.int .i64 y, .int .i64 m, .int .i64 d]] w fun e w' => e = .returned (.int .i64 (Cal.number y m d)) ∧ Below w.heap.size w w' := by
  by_cases hm : m < 3
  · have q1 : -200 ≤ (y - 1) / 400 := by omega
    have q2 : (y - 1) / 400 ≤ 200 := by omega
    have q3 : 0 ≤ (y - 1) % 400 := by omega
    have q4 : (y - 1) % 400 ≤ 399 := by omega
    have hf : Cal.number y m d = (y - 1) / 400 * 146097 + (y - 1) % 400 * 365 + (y - 1) % 400 / 4 - (y - 1) % 400 / 100 + ((153 * (m - 3 + 12) + 2) / 5 + d - 1) - 719468 := by
      unfold Cal.number Cal.y0 Cal.m0; rw [if_pos hm, if_pos hm, show m + 9 = m - 3 + 12 by omega]
    rw [hf]; clear hf
    go_enter Tryz.func125, Tryz.ntmps125
    go_wp2
    go_quiet (fail)
    go_wp2_with (go_at_call 165; refine (Num.Div _ _ (by omega) (by omega) (by omega) (by omega) _).mono ?_; rintro e w1 ⟨rfl, hb⟩; obtain ⟨hc, hfz⟩ := bcell hb)
    go_quiet ((go_at_call 166; exact quiet_left (march _ (by omega) (by omega) _)))
    go_wp2
    go_ret
    exact ⟨rfl, below_drewN ((below_drewN ((Below.refl _ _).alloc (Nat.le_refl _) _) _).trans (hb.mono (by simp))) _⟩
  · have q1 : -200 ≤ y / 400 := by omega
    have q2 : y / 400 ≤ 200 := by omega
    have q3 : 0 ≤ y % 400 := by omega
    have q4 : y % 400 ≤ 399 := by omega
    have hf : Cal.number y m d = y / 400 * 146097 + y % 400 * 365 + y % 400 / 4 - y % 400 / 100 + ((153 * (m - 3) + 2) / 5 + d - 1) - 719468 := by
      unfold Cal.number Cal.y0 Cal.m0; rw [if_neg hm, if_neg hm]
    rw [hf]; clear hf
    go_enter Tryz.func125, Tryz.ntmps125
    go_wp2
    go_quiet (fail)
    go_wp2_with (go_at_call 165; refine (Num.Div _ _ (by omega) (by omega) (by omega) (by omega) _).mono ?_; rintro e w1 ⟨rfl, hb⟩; obtain ⟨hc, hfz⟩ := bcell hb)
    go_quiet ((go_at_call 166; exact quiet_left (march _ (by omega) (by omega) _)))
    go_wp2
    go_ret
    exact ⟨rfl, below_drewN ((below_drewN ((Below.refl _ _).alloc (Nat.le_refl _) _) _).trans (hb.mono (by simp))) _⟩

theorem right_spec {y m d : Int} (h : right y m d = true) : -40000 ≤ y ∧ y ≤ 40000 ∧ 1 ≤ m ∧ m ≤ 12 ∧ 1 ≤ d ∧ d ≤ Cal.len y m := by
  unfold right at h
  simp only [Bool.and_eq_true, decide_eq_true_eq] at h
  obtain ⟨⟨⟨a, b⟩, c⟩, d⟩ := h
  refine ⟨a, b, ?_, ?_, c, d⟩
  · by_cases hm : m < 1
    · rw [Cal.len_out _ _ (.inl hm)] at d; omega
    · omega
  · by_cases hm : 12 < m
    · rw [Cal.len_out _ _ (.inr hm)] at d; omega
    · omega

set_option maxHeartbeats 800000 in
theorem Days (y m d : Int) (w : World) :
    Calls Tryz.prog 79 #[.agg #[.int .i64 y, .int .i64 m, .int .i64 d]] w fun e w' => e = .returned (if right y m d then .tuple #[.int .i64 (Cal.days y m d), .int .i64 0] else .tuple #[.int .i64 0, .int .i64 1]) ∧ Below w.heap.size w w' := by
  cases hr : right y m d
  · have Hr := Lib.hid hr; clear hr
    go_enter Tryz.func79, Tryz.ntmps79
    go_wp2_with (go_at_call 124; refine (Right _ _ _ _).mono ?_; rw [Hr.out]; rintro e w1 ⟨rfl, hb⟩)
    go_ret2
    exact ⟨rfl, ((Below.refl _ _).alloc (Nat.le_refl _) _).trans (hb.mono (by simp))⟩
  · obtain ⟨a1, a2, a3, a4, a5, a6⟩ := right_spec hr
    have hl := Cal.len_le y m
    have Hr := Lib.hid hr; clear hr
    have hd : d ≤ 31 := by omega
    clear a6 hl
    have e1 := Lib.hid (Cal.number_eq y m d a3 a4)
    go_enter Tryz.func79, Tryz.ntmps79
    go_wp2_with (first | (go_at_call 124; refine (Right _ _ _ _).mono ?_; rw [Hr.out]; rintro e w1 ⟨rfl, hb⟩; obtain ⟨hc, hfz⟩ := bcell hb) | (go_at_call 125; refine (number _ _ _ (by omega) (by omega) (by omega) (by omega) (by omega) (by omega) _).mono ?_; rintro e w2 ⟨rfl, hb2⟩))
    go_ret2
    exact ⟨by rw [← e1.out]; rfl, (((Below.refl _ _).alloc (Nat.le_refl _) _).trans (hb.mono (by simp))).trans (hb2.mono (by have := hb.size; simp at this; omega))⟩

theorem Weekday (n : Int) (h0 : -9000000000000000000 ≤ n) (h1 : n ≤ 9000000000000000000) (w : World) :
    Calls Tryz.prog 127 #[.int .i64 n] w fun e w' => e = .returned (.int .i64 ((n + 4) % 7)) ∧ Below w.heap.size w w' := by
  have q3 : 0 ≤ n % 7 := by omega
  have q4 : n % 7 ≤ 6 := by omega
  have hf : (n + 4) % 7 = (n % 7 + 4) % 7 := by omega
  rw [hf]; clear hf
  go_enter Tryz.func127, Tryz.ntmps127
  go_wp2_with (go_at_call 165; refine (Num.Div _ _ (by omega) (by omega) (by omega) (by omega) _).mono ?_; rintro e w1 ⟨rfl, hb⟩)
  go_ret
  exact ⟨rfl, hb⟩
end Civ
end Go.Proofs.YtkpjhgkmjcdobaaGreatDoor
