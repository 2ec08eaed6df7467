import Derived.Test.YtecmipgpldcfcaaGreatDoorG1
import Derived.Test.YtecmipgpldcfcaaGreatDoorProg
namespace Go.Proofs.YtecmipgpldcfcaaGreatDoor
open Go.RowKit NB
namespace Num

theorem div_tail (w : World) (n : Nat) : Below w.heap.size w (w.drewN n) := ⟨rfl, rfl, rfl, Nat.le_refl _, fun _ _ => rfl⟩

set_option maxHeartbeats 400000 in
theorem Div (a b : Int) (h0 : -9223372036854775808 < a) (h1 : a ≤ 9223372036854775807) (h2 : 1 ≤ b) (h3 : b ≤ 4611686018427387904) (w : World) :
    Calls Tryz.prog 216 #[.int .i64 a, .int .i64 b] w fun e w' => e = .returned (.tuple #[.int .i64 (a / b), .int .i64 (a % b), .int .i64 0]) ∧ Below w.heap.size w w' := by
  have hr := Int.emod_nonneg a (show b ≠ 0 by omega)
  have hr2 := Int.emod_lt_of_pos a (show 0 < b by omega)
  have hg : (a == -9223372036854775808) = false := by simp;omega
  have hb0 : (b == 0) = false := by simp;omega
  have hb1 : (b == -1) = false := by simp;omega
  by_cases ha : 0 ≤ a
  · have hq := Int.ediv_nonneg ha (show 0 ≤ b by omega)
    have hq2 : a / b ≤ a := Int.ediv_le_self _ ha
    have hx : ¬ bits .xor .i64 (a % b) b < 0 := by
      rw [Pl.xor_neg _ _ (by omega) (by omega) (by omega) (by omega)];omega
    by_cases hz : a % b = 0
    · have hzz : (a % b == 0) = true := by simp [hz]
      clear hx
      go_enter Tryz.func216, Tryz.ntmps216
      go_wp2
      go_quiet (fail)
      go_wp2
      go_ret3
      exact ⟨rfl, div_tail _ _⟩
    · have hzz : (a % b == 0) = false := by simp [hz]
      have hzn : (a % b != 0) = true := by simp [hz]
      go_enter Tryz.func216, Tryz.ntmps216
      go_wp2
      go_quiet (fail)
      go_wp2
      go_ret3
      exact ⟨rfl, div_tail _ _⟩
  · by_cases hz : a % b = 0
    · have e1 := Pl.tdiv_ex a b hz
      have e2 := Pl.tmod_ex a b hz
      rw [hz, ← e1]
      have hq : -9223372036854775808 ≤ a.tdiv b ∧ a.tdiv b ≤ 0 := by
        rw [e1]
        have h4 : b * (a / b) + a % b = a := Int.mul_ediv_add_emod a b
        rw [hz] at h4
        have h5 : a / b < 0 := Int.ediv_neg_of_neg_of_pos (by omega) (by omega)
        have h6 : (b - 1) * (a / b) ≤ 0 := Int.mul_nonpos_of_nonneg_of_nonpos (by omega) (by omega)
        have h7 : (b - 1) * (a / b) = b * (a / b) - a / b := by rw [Int.sub_mul, Int.one_mul]
        omega
      obtain ⟨hq1, hq2⟩ := hq
      have hm : a.tmod b = 0 := e2
      have Hz := Lib.hid hz
      have E1 := Lib.hid e1
      clear hz e1 e2
      go_enter Tryz.func216, Tryz.ntmps216
      go_wp2
      all_goals go_quiet (fail)
      all_goals go_wp2
      all_goals go_ret3
      all_goals exact ⟨rfl, div_tail _ _⟩
    · have e1 := Pl.tdiv_neg' a b (by omega) (by omega) hz
      have e2 := Pl.tmod_neg' a b (by omega) (by omega) hz
      have h4 : b * (a / b) + a % b = a := Int.mul_ediv_add_emod a b
      have h5 : a / b < 0 := Int.ediv_neg_of_neg_of_pos (by omega) (by omega)
      have h6 : (b - 1) * (a / b + 1) ≤ 0 := Int.mul_nonpos_of_nonneg_of_nonpos (by omega) (by omega)
      have h7 : (b - 1) * (a / b + 1) = b * (a / b) - a / b + b - 1 := by rw [Int.sub_mul, Int.one_mul, Int.mul_add];omega
      have q1 : -9223372036854775808 ≤ a.tdiv b - 1 := by rw [e1];omega
      have q2 : a.tdiv b ≤ 0 := by rw [e1];omega
      have r1 : a.tmod b < 0 := by rw [e2];omega
      have r2 : -4611686018427387904 ≤ a.tmod b := by rw [e2];omega
      have hx : bits .xor .i64 (a.tmod b) b < 0 := by
        rw [Pl.xor_neg _ _ (by omega) (by omega) (by omega) (by omega)];omega
      have hzz : (a.tmod b == 0) = false := by simp;omega
      have hzn : (a.tmod b != 0) = true := by simp;omega
      rw [show a / b = a.tdiv b - 1 by omega, show a % b = a.tmod b + b by omega]
      have E1 := Lib.hid e1
      have E2 := Lib.hid e2
      have H4 := Lib.hid h4
      have H7 := Lib.hid h7
      have HZ := Lib.hid hz
      clear e1 e2 h4 h5 h6 h7 hz hr hr2
      go_enter Tryz.func216, Tryz.ntmps216
      go_wp2
      all_goals go_quiet (fail)
      all_goals go_wp2
      all_goals go_ret3
      all_goals exact ⟨rfl, div_tail _ _⟩

theorem Clamp (n lo hi : Int) (w : World) : Calls Tryz.prog 94 #[.int .i64 n, .int .i64 lo, .int .i64 hi] w fun e w' => e = .returned (.int .i64 (if n < lo then lo else if hi < n then hi else n)) ∧ w = w' := by
  by_cases h1 : n < lo
  · rw [if_pos h1]
    go_enter Tryz.func94, Tryz.ntmps94
    go_wp2
    go_ret
    exact ⟨rfl, rfl⟩
  · rw [if_neg h1]
    by_cases h2 : hi < n
    · rw [if_pos h2]
      go_enter Tryz.func94, Tryz.ntmps94
      go_wp2
      go_ret
      exact ⟨rfl, rfl⟩
    · rw [if_neg h2]
      go_enter Tryz.func94, Tryz.ntmps94
      go_wp2
      go_ret
      exact ⟨rfl, rfl⟩
end Num
end Go.Proofs.YtecmipgpldcfcaaGreatDoor
namespace Go.Proofs.YtecmipgpldcfcaaGreatDoor
namespace Cal
def leap (y : Int) : Bool := decide (y % 4 = 0) && (!decide (y % 100 = 0) || decide (y % 400 = 0))
def lp (y : Int) : Int := if leap y then 1 else 0
def leaps (y : Int) : Int := y / 4 - y / 100 + y / 400
def ahead (y : Int) : Int := 365 * (y - 1970) + leaps (y - 1) - leaps 1969
def cum (y m : Int) : Int :=
  if m ≤ 1 then 0 else if m = 2 then 31 else
  (if m = 3 then 59 else if m = 4 then 90 else if m = 5 then 120 else if m = 6 then 151 else if m = 7 then 181 else if m = 8 then 212 else if m = 9 then 243 else if m = 10 then 273 else if m = 11 then 304 else if m = 12 then 334 else 365) + lp y
def len (y m : Int) : Int :=
  if m = 1 ∨ m = 3 ∨ m = 5 ∨ m = 7 ∨ m = 8 ∨ m = 10 ∨ m = 12 then 31 else if m = 4 ∨ m = 6 ∨ m = 9 ∨ m = 11 then 30 else if m = 2 then 28 + lp y else 0
def days (y m d : Int) : Int := ahead y + cum y m + d - 1
def y0 (y m : Int) : Int := if m < 3 then y - 1 else y
def m0 (m : Int) : Int := if m < 3 then m + 9 else m - 3
def number (y m d : Int) : Int :=
  y0 y m / 400 * 146097 + y0 y m % 400 * 365 + y0 y m % 400 / 4 - y0 y m % 400 / 100 + ((153 * m0 m + 2) / 5 + d - 1) - 719468
theorem lp_eq (y : Int) : lp y = (y / 4 - (y - 1) / 4) - (y / 100 - (y - 1) / 100) + (y / 400 - (y - 1) / 400) := by
  unfold lp leap
  by_cases h4 : y % 4 = 0 <;> by_cases h100 : y % 100 = 0 <;> by_cases h400 : y % 400 = 0 <;> simp [h4, h100, h400] <;> omega
theorem lp_01 (y : Int) : 0 ≤ lp y ∧ lp y ≤ 1 := by unfold lp;split <;> omega
theorem ahead_succ (y : Int) : ahead (y + 1) = ahead y + 365 + lp y := by
  have := lp_eq y
  unfold ahead leaps
  have h : y + 1 - 1 = y := by omega
  rw [h];omega
theorem months {m : Int} (h1 : 1 ≤ m) (h2 : m ≤ 12) : m = 1 ∨ m = 2 ∨ m = 3 ∨ m = 4 ∨ m = 5 ∨ m = 6 ∨ m = 7 ∨ m = 8 ∨ m = 9 ∨ m = 10 ∨ m = 11 ∨ m = 12 := by omega
theorem number_eq (y m d : Int) (h1 : 1 ≤ m) (h2 : m ≤ 12) : number y m d = days y m d := by
  have hl := lp_eq y
  unfold days ahead leaps number y0 m0 cum
  rcases months h1 h2 with rfl|rfl|rfl|rfl|rfl|rfl|rfl|rfl|rfl|rfl|rfl|rfl <;> simp <;> omega
theorem len_bd (y m : Int) (h1 : 1 ≤ m) (h2 : m ≤ 12) : 28 ≤ len y m ∧ len y m ≤ 31 := by
  have := lp_01 y
  unfold len
  split
  · omega
  split
  · omega
  split <;> omega
theorem len_out (y m : Int) (h : m < 1 ∨ 12 < m) : len y m = 0 := by
  unfold len
  rw [if_neg (by omega), if_neg (by omega), if_neg (by omega)]
theorem len_le (y m : Int) : 0 ≤ len y m ∧ len y m ≤ 31 := by
  by_cases h : m < 1 ∨ 12 < m
  · rw [len_out y m h];omega
  · have := len_bd y m (by omega) (by omega);omega
theorem cum_succ (y m : Int) (h1 : 1 ≤ m) (h2 : m ≤ 12) : cum y (m + 1) = cum y m + len y m := by
  unfold cum len
  rcases months h1 h2 with rfl|rfl|rfl|rfl|rfl|rfl|rfl|rfl|rfl|rfl|rfl|rfl <;> simp <;> omega
theorem cum_bd (y m : Int) (h1 : 1 ≤ m) (h2 : m ≤ 12) : 0 ≤ cum y m ∧ cum y m + len y m ≤ 365 + lp y := by
  have := lp_01 y
  unfold cum len
  rcases months h1 h2 with rfl|rfl|rfl|rfl|rfl|rfl|rfl|rfl|rfl|rfl|rfl|rfl <;> simp <;> omega
theorem ahead_bd (y : Int) (h1 : -40001 ≤ y) (h2 : y ≤ 40002) : -15400000 ≤ ahead y ∧ ahead y ≤ 14000000 := by unfold ahead leaps;omega
theorem ahead_mono {a b : Int} (h : a ≤ b) : ahead a + 365 * (b - a) ≤ ahead b := by unfold ahead leaps;omega
theorem leap_alt (y : Int) : leap y = (decide (y % 4 = 0) && (decide (y % 25 ≠ 0) || decide (y % 16 = 0))) := by
  unfold leap
  by_cases h4 : y % 4 = 0
  · by_cases h25 : y % 25 = 0
    · have e100 : y % 100 = 0 := by omega
      by_cases h16 : y % 16 = 0
      · have : y % 400 = 0 := by omega
        simp [h4, h25, h16, this]
      · have : ¬ y % 400 = 0 := by omega
        simp [h4, h25, h16, this, e100]
    · have e100 : ¬ y % 100 = 0 := by omega
      simp [h4, h25, e100]
  · simp [h4]
end Cal
end Go.Proofs.YtecmipgpldcfcaaGreatDoor
namespace Go.Proofs.YtecmipgpldcfcaaGreatDoor
open Go.RowKit NB
namespace Civ

theorem Leap (y : Int) (w : World) : Calls Tryz.prog 180 #[.int .i64 y] w fun e w' => e = .returned (.bool (Cal.leap y)) ∧ w = w' := by
  have hA := Pl.and3 y
  have hB := Pl.and15 y
  have hC : (y.tmod 25 == 0) = decide (y % 25 = 0) := by
    by_cases h : y % 25 = 0
    · simp [h, Pl.tmod_ex y 25 h]
    · have : y.tmod 25 ≠ 0 := by
        intro h';exact h (Int.emod_eq_zero_of_dvd (Int.dvd_of_tmod_eq_zero h'))
      simp [h, this]
  rw [Cal.leap_alt]
  by_cases h4 : y % 4 = 0
  · have t4 : (y % 4 == 0) = true := by simp [h4]
    by_cases h25 : y % 25 = 0
    · have t25 : (y.tmod 25 == 0) = true := by rw [hC];simp [h25]
      have n25 : (y.tmod 25 != 0) = false := by rw [bne, t25];rfl
      by_cases h16 : y % 16 = 0
      · have t16 : (y % 16 == 0) = true := by simp [h16]
        have hf : (decide (y % 4 = 0) && (decide (y % 25 ≠ 0) || decide (y % 16 = 0))) = true := by simp [h4, h16]
        rw [hf]
        clear hC h4 h25 h16 hf
        go_enter Tryz.func180, Tryz.ntmps180
        go_wp2
        go_ret
        exact ⟨rfl, rfl⟩
      · have t16 : (y % 16 == 0) = false := by simp [h16]
        have hf : (decide (y % 4 = 0) && (decide (y % 25 ≠ 0) || decide (y % 16 = 0))) = false := by simp [h25, h16]
        rw [hf]
        clear hC h4 h25 h16 hf
        go_enter Tryz.func180, Tryz.ntmps180
        go_wp2
        go_ret
        exact ⟨rfl, rfl⟩
    · have t25 : (y.tmod 25 == 0) = false := by rw [hC];simp [h25]
      have n25 : (y.tmod 25 != 0) = true := by rw [bne, t25];rfl
      have hf : (decide (y % 4 = 0) && (decide (y % 25 ≠ 0) || decide (y % 16 = 0))) = true := by simp [h4, h25]
      rw [hf]
      clear hC h4 h25 hf
      go_enter Tryz.func180, Tryz.ntmps180
      go_wp2
      go_ret
      exact ⟨rfl, rfl⟩
  · have t4 : (y % 4 == 0) = false := by simp [h4]
    have hf : (decide (y % 4 = 0) && (decide (y % 25 ≠ 0) || decide (y % 16 = 0))) = false := by simp [h4]
    rw [hf]
    clear hC h4 hf
    go_enter Tryz.func180, Tryz.ntmps180
    go_wp2
    go_ret
    exact ⟨rfl, rfl⟩

set_option maxHeartbeats 800000 in
theorem Len (y m : Int) (w : World) : Calls Tryz.prog 136 #[.int .i64 y, .int .i64 m] w fun e w' => e = .returned (.int .i64 (Cal.len y m)) ∧ w = w' := by
  by_cases h : m < 1 ∨ 12 < m
  · rw [Cal.len_out y m h]
    have e1 : (m == 1) = false := by simp;omega
    have e2 : (m == 2) = false := by simp;omega
    have e3 : (m == 3) = false := by simp;omega
    have e4 : (m == 4) = false := by simp;omega
    have e5 : (m == 5) = false := by simp;omega
    have e6 : (m == 6) = false := by simp;omega
    have e7 : (m == 7) = false := by simp;omega
    have e8 : (m == 8) = false := by simp;omega
    have e9 : (m == 9) = false := by simp;omega
    have e10 : (m == 10) = false := by simp;omega
    have e11 : (m == 11) = false := by simp;omega
    have e12 : (m == 12) = false := by simp;omega
    clear h
    go_enter Tryz.func136, Tryz.ntmps136
    go_wp2
    go_ret
    exact ⟨rfl, rfl⟩
  · by_cases h2 : m = 2
    · subst h2
      clear h
      cases hl : Cal.leap y
      all_goals
        have e : Cal.len y 2 = if Cal.leap y then 29 else 28 := by
          unfold Cal.len Cal.lp
          rw [if_neg (by decide), if_neg (by decide), if_pos rfl]
          split <;> rfl
        rw [e, hl]
        clear e
        have Hl := Lib.hid hl
        clear hl
        go_enter Tryz.func136, Tryz.ntmps136
        go_wp2_with (go_at_call 180;refine (Leap y _).mono ?_;rw [Hl.out];rintro e w' ⟨rfl, rfl⟩)
        go_ret
        exact ⟨rfl, rfl⟩
    · rcases Cal.months (m := m) (by omega) (by omega) with rfl|rfl|rfl|rfl|rfl|rfl|rfl|rfl|rfl|rfl|rfl|rfl
      all_goals
        clear h
        first
          | (exfalso;exact h2 rfl)
          | (clear h2
             go_enter Tryz.func136, Tryz.ntmps136
             go_wp2
             go_ret
             exact ⟨rfl, rfl⟩)

def right (y m d : Int) : Bool := decide (-40000 ≤ y) && decide (y ≤ 40000) && decide (1 ≤ d) && decide (d ≤ Cal.len y m)

set_option maxHeartbeats 800000 in
theorem Right (y m d : Int) (w : World) : Calls Tryz.prog 182 #[.agg #[.int .i64 y, .int .i64 m, .int .i64 d]] w fun e w' => e = .returned (.bool (right y m d)) ∧ Below w.heap.size w w' := by
  unfold right
  by_cases h1 : -40000 ≤ y
  case neg =>
    have d1 : decide (-40000 ≤ y) = false := by simpa using h1
    rw [d1]
    go_enter Tryz.func182, Tryz.ntmps182
    go_wp2
    go_quiet (fail)
    go_wp2
    go_ret
    exact ⟨rfl, below_drewN ((Below.refl _ _).alloc (Nat.le_refl _) _) _⟩
  case pos =>
    by_cases h2 : y ≤ 40000
    case neg =>
      have d1 : decide (y ≤ 40000) = false := by simpa using h2
      rw [d1]
      go_enter Tryz.func182, Tryz.ntmps182
      go_wp2
      go_quiet (fail)
      go_wp2
      go_ret
      exact ⟨by simp, below_drewN ((Below.refl _ _).alloc (Nat.le_refl _) _) _⟩
    case pos =>
      by_cases h3 : 1 ≤ d
      case neg =>
        have d1 : decide (1 ≤ d) = false := by simpa using h3
        rw [d1]
        go_enter Tryz.func182, Tryz.ntmps182
        go_wp2
        go_quiet (fail)
        go_wp2
        go_ret
        exact ⟨by simp, below_drewN ((Below.refl _ _).alloc (Nat.le_refl _) _) _⟩
      case pos =>
        have hf : (decide (-40000 ≤ y) && decide (y ≤ 40000) && decide (1 ≤ d) && decide (d ≤ Cal.len y m)) = decide (d ≤ Cal.len y m) := by simp [h1, h2, h3]
        rw [hf]
        clear hf
        go_enter Tryz.func182, Tryz.ntmps182
        go_wp2
        go_quiet ((go_at_call 136;exact quiet_left (Len _ _ _)))
        go_wp2
        go_ret
        exact ⟨rfl, below_drewN ((Below.refl _ _).alloc (Nat.le_refl _) _) _⟩

theorem march (m : Int) (h0 : 0 ≤ m) (h1 : m ≤ 100) (w : World) : Calls Tryz.prog 217 #[.int .i64 m] w fun e w' => e = .returned (.int .i64 ((153 * m + 2) / 5)) ∧ w = w' := by
  go_enter Tryz.func217, Tryz.ntmps217
  go_wp2
  go_ret
  exact ⟨rfl, rfl⟩
end Civ
end Go.Proofs.YtecmipgpldcfcaaGreatDoor
namespace Go.Proofs.YtecmipgpldcfcaaGreatDoor
open Go.RowKit NB
namespace Civ

set_option maxHeartbeats 800000 in
theorem number (y m d : Int) (h1 : -50000 ≤ y) (h2 : y ≤ 50000) (h3 : 1 ≤ m) (h4 : m ≤ 12) (h5 : 0 ≤ d) (h6 : d ≤ 100) (w : World) :
    Calls Tryz.prog 183 #[.agg #[.int .i64 y, .int .i64 m, .int .i64 d]] w fun e w' => e = .returned (.int .i64 (Cal.number y m d)) ∧ Below w.heap.size w w' := by
  by_cases hm : m < 3
  · have q1 : -200 ≤ (y - 1) / 400 := by omega
    have q2 : (y - 1) / 400 ≤ 200 := by omega
    have q3 : 0 ≤ (y - 1) % 400 := by omega
    have q4 : (y - 1) % 400 ≤ 399 := by omega
    have hf : Cal.number y m d = (y - 1) / 400 * 146097 + (y - 1) % 400 * 365 + (y - 1) % 400 / 4 - (y - 1) % 400 / 100 + ((153 * (m - 3 + 12) + 2) / 5 + d - 1) - 719468 := by
      unfold Cal.number Cal.y0 Cal.m0;rw [if_pos hm, if_pos hm, show m + 9 = m - 3 + 12 by omega]
    rw [hf];clear hf
    go_enter Tryz.func183, Tryz.ntmps183
    go_wp2
    go_quiet (fail)
    go_wp2_with (go_at_call 216;refine (Num.Div _ _ (by omega) (by omega) (by omega) (by omega) _).mono ?_;rintro e w1 ⟨rfl, hb⟩;obtain ⟨hc, hfz⟩ := bcell hb)
    go_quiet ((go_at_call 217;exact quiet_left (march _ (by omega) (by omega) _)))
    go_wp2
    go_ret
    exact ⟨rfl, below_drewN ((below_drewN ((Below.refl _ _).alloc (Nat.le_refl _) _) _).trans (hb.mono (by simp))) _⟩
  · have q1 : -200 ≤ y / 400 := by omega
    have q2 : y / 400 ≤ 200 := by omega
    have q3 : 0 ≤ y % 400 := by omega
    have q4 : y % 400 ≤ 399 := by omega
    have hf : Cal.number y m d = y / 400 * 146097 + y % 400 * 365 + y % 400 / 4 - y % 400 / 100 + ((153 * (m - 3) + 2) / 5 + d - 1) - 719468 := by
      unfold Cal.number Cal.y0 Cal.m0;rw [if_neg hm, if_neg hm]
    rw [hf];clear hf
    go_enter Tryz.func183, Tryz.ntmps183
    go_wp2
    go_quiet (fail)
    go_wp2_with (go_at_call 216;refine (Num.Div _ _ (by omega) (by omega) (by omega) (by omega) _).mono ?_;rintro e w1 ⟨rfl, hb⟩;obtain ⟨hc, hfz⟩ := bcell hb)
    go_quiet ((go_at_call 217;exact quiet_left (march _ (by omega) (by omega) _)))
    go_wp2
    go_ret
    exact ⟨rfl, below_drewN ((below_drewN ((Below.refl _ _).alloc (Nat.le_refl _) _) _).trans (hb.mono (by simp))) _⟩

theorem right_spec {y m d : Int} (h : right y m d = true) : -40000 ≤ y ∧ y ≤ 40000 ∧ 1 ≤ m ∧ m ≤ 12 ∧ 1 ≤ d ∧ d ≤ Cal.len y m := by
  unfold right at h
  simp only [Bool.and_eq_true, decide_eq_true_eq] at h
  obtain ⟨⟨⟨a, b⟩, c⟩, d⟩ := h
  refine ⟨a, b, ?_, ?_, c, d⟩
  · by_cases hm : m < 1
    · rw [Cal.len_out _ _ (.inl hm)] at d;omega
    · omega
  · by_cases hm : 12 < m
    · rw [Cal.len_out _ _ (.inr hm)] at d;omega
    · omega

set_option maxHeartbeats 800000 in
theorem Days (y m d : Int) (w : World) :
    Calls Tryz.prog 138 #[.agg #[.int .i64 y, .int .i64 m, .int .i64 d]] w fun e w' => e = .returned (if right y m d then .tuple #[.int .i64 (Cal.days y m d), .int .i64 0] else .tuple #[.int .i64 0, .int .i64 1]) ∧ Below w.heap.size w w' := by
  cases hr : right y m d
  · have Hr := Lib.hid hr;clear hr
    go_enter Tryz.func138, Tryz.ntmps138
    go_wp2_with (go_at_call 182;refine (Right _ _ _ _).mono ?_;rw [Hr.out];rintro e w1 ⟨rfl, hb⟩)
    go_ret2
    exact ⟨rfl, ((Below.refl _ _).alloc (Nat.le_refl _) _).trans (hb.mono (by simp))⟩
  · obtain ⟨a1, a2, a3, a4, a5, a6⟩ := right_spec hr
    have hl := Cal.len_le y m
    have Hr := Lib.hid hr;clear hr
    have hd : d ≤ 31 := by omega
    clear a6 hl
    have e1 := Lib.hid (Cal.number_eq y m d a3 a4)
    go_enter Tryz.func138, Tryz.ntmps138
    go_wp2_with (first|(go_at_call 182;refine (Right _ _ _ _).mono ?_;rw [Hr.out];rintro e w1 ⟨rfl, hb⟩;obtain ⟨hc, hfz⟩ := bcell hb)|(go_at_call 183;refine (number _ _ _ (by omega) (by omega) (by omega) (by omega) (by omega) (by omega) _).mono ?_;rintro e w2 ⟨rfl, hb2⟩))
    go_ret2
    exact ⟨by rw [← e1.out];rfl, (((Below.refl _ _).alloc (Nat.le_refl _) _).trans (hb.mono (by simp))).trans (hb2.mono (by have := hb.size;simp at this;omega))⟩

theorem Weekday (n : Int) (h0 : -9000000000000000000 ≤ n) (h1 : n ≤ 9000000000000000000) (w : World) :
    Calls Tryz.prog 184 #[.int .i64 n] w fun e w' => e = .returned (.int .i64 ((n + 4) % 7)) ∧ Below w.heap.size w w' := by
  have q3 : 0 ≤ n % 7 := by omega
  have q4 : n % 7 ≤ 6 := by omega
  have hf : (n + 4) % 7 = (n % 7 + 4) % 7 := by omega
  rw [hf];clear hf
  go_enter Tryz.func184, Tryz.ntmps184
  go_wp2_with (go_at_call 216;refine (Num.Div _ _ (by omega) (by omega) (by omega) (by omega) _).mono ?_;rintro e w1 ⟨rfl, hb⟩)
  go_ret
  exact ⟨rfl, hb⟩
end Civ
end Go.Proofs.YtecmipgpldcfcaaGreatDoor
namespace Go.Proofs.YtecmipgpldcfcaaGreatDoor
open Go.RowKit NB
namespace Day
def onRight (k wk d : Int) : Bool := if k = 1 then decide (0 ≤ wk ∧ wk ≤ 6 ∧ d = 0) else decide (0 ≤ k ∧ k ≤ 3 ∧ 0 ≤ wk ∧ wk ≤ (if k = 0 then 0 else 6) ∧ 1 ≤ d ∧ d ≤ 31)
theorem onRight_iff (k wk d : Int) : onRight k wk d = true ↔ (k = 1 ∧ 0 ≤ wk ∧ wk ≤ 6 ∧ d = 0) ∨ (k = 0 ∧ wk = 0 ∧ 1 ≤ d ∧ d ≤ 31) ∨ ((k = 2 ∨ k = 3) ∧ 0 ≤ wk ∧ wk ≤ 6 ∧ 1 ≤ d ∧ d ≤ 31) := by
  unfold onRight
  by_cases h1 : k = 1
  · simp [h1]
  · by_cases h0 : k = 0
    · simp [h0];omega
    · simp [h1, h0];omega
theorem within (n lo hi : Int) (w : World) : Calls Tryz.prog 135 #[.int .i64 n, .int .i64 lo, .int .i64 hi] w fun e w' => e = .returned (.bool (decide (lo ≤ n) && decide (n ≤ hi))) ∧ w = w' := by
  go_enter Tryz.func135, Tryz.ntmps135
  go_wp2
  all_goals
    go_ret
    refine ⟨ret_bool ?_, rfl⟩
    simp [*]
    try omega
set_option maxHeartbeats 800000 in
theorem Right (k wk d : Int) (w : World) : Calls Tryz.prog 134 #[.agg #[.int .i64 k, .int .i64 wk, .int .i64 d]] w fun e w' => e = .returned (.bool (onRight k wk d)) ∧ Below w.heap.size w w' := by
  go_enter Tryz.func134, Tryz.ntmps134
  go_wp2
  all_goals
    go_ret
    refine ⟨ret_bool ?_, (Below.refl _ _).alloc (Nat.le_refl _) _⟩
    rw [Bool.eq_iff_iff, onRight_iff]
    simp only [beq_iff_eq, beq_eq_false_iff_ne, ne_eq, decide_eq_true_eq, Bool.false_eq_true, false_iff] at *
    omega

def fits (k wk d m : Int) : Bool := onRight k wk d && (decide (1 ≤ m) && decide (m ≤ 12)) && decide (d ≤ Cal.len 1 m)
theorem fits_spec {k wk d m : Int} (h : fits k wk d m = true) : 1 ≤ m ∧ m ≤ 12 ∧ d ≤ Cal.len 1 m ∧ ((k = 1 ∧ 0 ≤ wk ∧ wk ≤ 6 ∧ d = 0) ∨ (k = 0 ∧ wk = 0 ∧ 1 ≤ d ∧ d ≤ 31) ∨ ((k = 2 ∨ k = 3) ∧ 0 ≤ wk ∧ wk ≤ 6 ∧ 1 ≤ d ∧ d ≤ 31)) := by
  unfold fits at h
  simp only [Bool.and_eq_true, decide_eq_true_eq] at h
  exact ⟨h.1.2.1, h.1.2.2, h.2, (onRight_iff _ _ _).1 h.1.1⟩
set_option maxHeartbeats 800000 in
theorem Fits (k wk d m : Int) (w : World) : Calls Tryz.prog 85 #[.agg #[.int .i64 k, .int .i64 wk, .int .i64 d], .int .i64 m] w fun e w' => e = .returned (.bool (fits k wk d m)) ∧ Below w.heap.size w w' := by
  unfold fits
  cases h1 : onRight k wk d
  case false =>
    have H1 := Lib.hid h1;clear h1
    go_enter Tryz.func85, Tryz.ntmps85
    go_wp2
    refine region_later (by kernel_rfl) (by kernel_rfl) ?_
    repeat (go_big_quiet_step ((go_at_call 134;rename_i xL;apply calls_later xL (Nat.le_refl _);refine (Right _ _ _ _).mono ?_;rw [H1.out];exact fun _ _ h => h)))
    refine wpQuiet_nil ?_
    rintro _ ⟨⟨u, hu⟩, rfl⟩
    go_wp2
    go_ret
    exact ⟨rfl, ((Below.refl _ _).alloc (Nat.le_refl _) _).trans (hu.mono (by simp))⟩
  case true =>
    have H1 := Lib.hid h1;clear h1
    cases h2 : (decide (1 ≤ m) && decide (m ≤ 12))
    case false =>
      have H2 := Lib.hid h2;clear h2
      go_enter Tryz.func85, Tryz.ntmps85
      go_wp2
      refine region_later (by kernel_rfl) (by kernel_rfl) ?_
      repeat (go_big_quiet_step (first|(go_at_call 134;rename_i xL;apply calls_later xL (Nat.le_refl _);refine (Right _ _ _ _).mono ?_;rw [H1.out];exact fun _ _ h => h)|(go_at_call 135;rename_i xL;apply calls_later xL (Nat.le_refl _);apply below_of_same;refine (within _ _ _ _).mono ?_;rw [H2.out];exact fun _ _ h => h)))
      refine wpQuiet_nil ?_
      rintro _ ⟨⟨u, hu⟩, rfl⟩
      go_wp2
      go_ret
      exact ⟨rfl, ((Below.refl _ _).alloc (Nat.le_refl _) _).trans (hu.mono (by simp))⟩
    case true =>
      have H2 := Lib.hid h2;clear h2
      go_enter Tryz.func85, Tryz.ntmps85
      go_wp2
      refine region_later (by kernel_rfl) (by kernel_rfl) ?_
      repeat (go_big_quiet_step (first|(go_at_call 134;rename_i xL;apply calls_later xL (Nat.le_refl _);refine (Right _ _ _ _).mono ?_;rw [H1.out];exact fun _ _ h => h)|(go_at_call 135;rename_i xL;apply calls_later xL (Nat.le_refl _);apply below_of_same;refine (within _ _ _ _).mono ?_;rw [H2.out];exact fun _ _ h => h)|(go_at_call 136;rename_i xL;exact calls_later xL (Nat.le_refl _) (below_of_same (Civ.Len _ _ _)))))
      refine wpQuiet_nil ?_
      rintro _ ⟨⟨u, hu⟩, rfl⟩
      go_wp2
      go_ret
      exact ⟨rfl, ((Below.refl _ _).alloc (Nat.le_refl _) _).trans (hu.mono (by simp))⟩

def backI (n wk : Int) : Int := ((n + 4) % 7 - wk + 7) % 7
theorem back (n wk : Int) (h0 : -9000000000000000000 ≤ n) (h1 : n ≤ 9000000000000000000) (h2 : 0 ≤ wk) (h3 : wk ≤ 6) (w : World) :
    Calls Tryz.prog 139 #[.int .i64 n, .int .i64 wk] w fun e w' => e = .returned (.int .i64 (backI n wk)) ∧ Below w.heap.size w w' := by
  unfold backI
  have q3 : 0 ≤ (n + 4) % 7 := by omega
  have q4 : (n + 4) % 7 ≤ 6 := by omega
  go_enter Tryz.func139, Tryz.ntmps139
  go_wp2_with (go_at_call 184;refine (Civ.Weekday _ (by omega) (by omega) _).mono ?_;rintro e w1 ⟨rfl, hb⟩)
  go_ret
  exact ⟨rfl, hb⟩
end Day
end Go.Proofs.YtecmipgpldcfcaaGreatDoor
namespace Go.Proofs.YtecmipgpldcfcaaGreatDoor
open Go.RowKit NB
namespace Day
def winLow (k d m : Int) : Int := if k = 1 then Cal.len 1 m - 6 else if k = 3 then d - 6 else d
def winHigh (k d m : Int) : Int := if k = 1 then Cal.len 4 m else if k = 2 then d + 6 else d
theorem kinds {k wk d m : Int} (h : fits k wk d m = true) : k = 1 ∨ k = 0 ∨ k = 2 ∨ k = 3 := by
  obtain ⟨_, _, _, h⟩ := fits_spec h
  omega
theorem days31 {k wk d m : Int} (h : fits k wk d m = true) : 0 ≤ d ∧ d ≤ 31 ∧ 0 ≤ wk ∧ wk ≤ 6 := by
  obtain ⟨_, _, _, h⟩ := fits_spec h
  omega

def dayI (k wk d y m : Int) : Int :=
  if k = 1 then (Cal.days y m 1 + Cal.len y m - 1) - backI (Cal.days y m 1 + Cal.len y m - 1) wk
  else if k = 2 then (Cal.days y m 1 + d - 1) + (6 - backI (Cal.days y m 1 + d - 1 + 6) wk)
  else if k = 3 then (Cal.days y m 1 + d - 1) - backI (Cal.days y m 1 + d - 1) wk
  else Cal.days y m 1 + d - 1
theorem backI_bd (n wk : Int) : 0 ≤ backI n wk ∧ backI n wk ≤ 6 := by unfold backI;omega
theorem right_first {y m : Int} (h1 : -40000 ≤ y) (h2 : y ≤ 40000) (h3 : 1 ≤ m) (h4 : m ≤ 12) : Civ.right y m 1 = true := by
  have := Cal.len_bd y m h3 h4
  unfold Civ.right
  simp only [Bool.and_eq_true, decide_eq_true_eq]
  omega
theorem first_bd {y m : Int} (h1 : -40000 ≤ y) (h2 : y ≤ 40000) (h3 : 1 ≤ m) (h4 : m ≤ 12) : -16000000 ≤ Cal.days y m 1 ∧ Cal.days y m 1 ≤ 16000000 := by
  have := Cal.ahead_bd y (by omega) (by omega)
  have := Cal.cum_bd y m h3 h4
  have := Cal.len_bd y m h3 h4
  have := Cal.lp_01 y
  unfold Cal.days;omega

theorem back' (n wk : Int) (h0 : -9000000000000000000 ≤ n) (h1 : n ≤ 9000000000000000000) (h2 : 0 ≤ wk) (h3 : wk ≤ 6) (w : World) :
    Calls Tryz.prog 139 #[.int .i64 n, .int .i64 wk] w fun e w' => ∃ r, e = .returned (.int .i64 r) ∧ r = backI n wk ∧ 0 ≤ r ∧ r ≤ 6 ∧ Below w.heap.size w w' :=
  (back n wk h0 h1 h2 h3 w).mono fun _ _ ⟨he, hb⟩ => ⟨_, he, rfl, (backI_bd n wk).1, (backI_bd n wk).2, hb⟩

set_option maxHeartbeats 1600000 in
theorem Days (k wk d y m : Int) (w : World) : Calls Tryz.prog 88 #[.agg #[.int .i64 k, .int .i64 wk, .int .i64 d], .int .i64 y, .int .i64 m] w fun e w' =>
    e = .returned (if fits k wk d m then (if -39999 ≤ y ∧ y ≤ 39999 then .tuple #[.int .i64 (dayI k wk d y m), .int .i64 0] else .tuple #[.int .i64 0, .int .i64 1]) else .tuple #[.int .i64 0, .int .i64 4]) ∧ Below w.heap.size w w' := by
  cases h1 : fits k wk d m
  case false =>
    have H1 := Lib.hid h1;clear h1
    go_enter Tryz.func88, Tryz.ntmps88
    go_wp2_with (go_at_call 85;refine (Fits _ _ _ _ _).mono ?_;rw [H1.out];rintro e w1 ⟨rfl, hb⟩)
    go_ret2
    exact ⟨rfl, ((Below.refl _ _).alloc (Nat.le_refl _) _).trans (hb.mono (by simp))⟩
  case true =>
    by_cases hy : -39999 ≤ y ∧ y ≤ 39999
    case neg =>
      have H1 := Lib.hid h1;clear h1
      have hw : (decide (-39999 ≤ y) && decide (y ≤ 39999)) = false := by
        rw [Bool.eq_false_iff];intro h;simp only [Bool.and_eq_true, decide_eq_true_eq] at h;exact hy h
      have HW := Lib.hid hw;clear hw
      rw [if_pos rfl, if_neg hy]
      clear hy
      go_enter Tryz.func88, Tryz.ntmps88
      go_wp2_with (first|(go_at_call 85;refine (Fits _ _ _ _ _).mono ?_;rw [H1.out];rintro e w1 ⟨rfl, hb⟩;obtain ⟨hc, hfz⟩ := bcell hb)|(go_at_call 135;refine (within _ _ _ _).mono ?_;rw [HW.out];rintro e w2 ⟨rfl, rfl⟩))
      go_ret2
      exact ⟨rfl, ((Below.refl _ _).alloc (Nat.le_refl _) _).trans (hb.mono (by simp))⟩
    case pos =>
      rw [if_pos rfl, if_pos hy]
      have hk := kinds h1
      obtain ⟨d0, d1, w0, w1⟩ := days31 h1
      obtain ⟨m0, m1, _, _⟩ := fits_spec h1
      obtain ⟨y0, y1⟩ := hy
      have H1 := Lib.hid h1;clear h1
      have hw : (decide (-39999 ≤ y) && decide (y ≤ 39999)) = true := by
        simp only [Bool.and_eq_true, decide_eq_true_eq];exact ⟨y0, y1⟩
      have HW := Lib.hid hw;clear hw
      have HR := Lib.hid (right_first (y := y) (m := m) (by omega) (by omega) m0 m1)
      have fb := first_bd (y := y) (m := m) (by omega) (by omega) m0 m1
      have l1 := Cal.len_le y m
      unfold dayI
      generalize hF : Cal.days y m 1 = F at *
      have HF := Lib.hid hF;clear hF
      rcases hk with rfl|rfl|rfl|rfl
      all_goals
        simp only [Int.reduceEq, if_true, if_false]
        go_enter Tryz.func88, Tryz.ntmps88
        go_wp2_with (first|(go_at_call 85;refine (Fits _ _ _ _ _).mono ?_;rw [H1.out];rintro e w1 ⟨rfl, hb⟩;obtain ⟨hc, hfz⟩ := bcell hb;have hz : w.heap.size < w1.heap.size := by (have := hb.size;simp at this;omega))|(go_at_call 135;refine (within _ _ _ _).mono ?_;rw [HW.out];rintro e w2 ⟨rfl, rfl⟩)|(go_at_call 138;refine (Civ.Days _ _ _ _).mono ?_;rw [HR.out, if_pos rfl, HF.out];rintro e w3 ⟨rfl, hb3⟩;obtain ⟨hc3, hfz3⟩ := bcell hb3;have hz3 := hb3.size)|(go_at_call 136;refine (Civ.Len _ _ _).mono ?_;rintro e w5 ⟨rfl, rfl⟩)|(go_at_call 139;refine (back' _ _ (by omega) (by omega) (by omega) (by omega) _).mono ?_;rintro e w4 ⟨r, rfl, hr, r0, r1, hb4⟩;have HR4 := Lib.hid hr;clear hr))
        go_ret2
        first
          | (refine ⟨ret_ii ?_ rfl, ((((Below.refl _ _).alloc (Nat.le_refl _) _).trans (hb.mono (by simp))).trans (hb3.mono (by omega))).trans (hb4.mono (by omega))⟩
             first|(rw [HR4.out];done)|(rw [HR4.out];omega)|(rw [HR4.out, show F + d - 1 + 6 = F + d - 1 + 7 - 1 by omega]))
          | exact ⟨ret_ii (by omega) rfl, (((Below.refl _ _).alloc (Nat.le_refl _) _).trans (hb.mono (by simp))).trans (hb3.mono (by omega))⟩
end Day
end Go.Proofs.YtecmipgpldcfcaaGreatDoor
namespace Go.Proofs.YtecmipgpldcfcaaGreatDoor
open Go.RowKit NB
structure RuleV where
  name : ByteArray
  fr : Int
  «to» : Int
  month : Int
  kind : Int
  week : Int
  day : Int
  sec : Int
  base : Int
  save : Int
  letter : ByteArray
deriving DecidableEq
def RuleV.cells (r : RuleV) : List Value := [.string r.name, .int .i64 r.fr, .int .i64 r.to, .int .i64 r.month, .int .i64 r.kind, .int .i64 r.week, .int .i64 r.day, .int .i64 r.sec, .int .i64 r.base, .int .i64 r.save, .string r.letter]
def I64 (n : Int) : Prop := -9223372036854775808 ≤ n ∧ n ≤ 9223372036854775807
structure RuleV.Fit (r : RuleV) : Prop where
  n : r.name.size ≤ 9223372036854775807
  l : r.letter.size ≤ 9223372036854775807
  fr : I64 r.fr
  «to» : I64 r.to
  sec : I64 r.sec
  save : I64 r.save
namespace Rul
def may (y : Int) : Bool := decide (-32767 ≤ y) && decide (y ≤ 32767)
theorem mayC (y : Int) (w : World) : Calls Tryz.prog 188 #[.int .i64 y] w fun e w' => e = .returned (.bool (may y)) ∧ w = w' := by
  unfold may
  go_enter Tryz.func188, Tryz.ntmps188
  go_wp2
  all_goals
    go_ret
    refine ⟨ret_bool ?_, rfl⟩
    simp [*]
    try omega
def StrErr (err : Int) (w : World) (e : Ending) (w' : World) : Prop := ∃ s : ByteArray, e = .returned (.tuple #[.string s, .int .i64 err]) ∧ Below w.heap.size w w'
def frErr (y : Int) : Int := if may y then 0 else 1
def toErr (fr y : Int) : Int := if may y then (if y < fr then 14 else 0) else 1
theorem FromText (y : Int) (hy : I64 y) (w : World) : Calls Tryz.prog 145 #[.int .i64 y] w (StrErr (frErr y) w) := by
  obtain ⟨y0, y1⟩ := hy
  unfold frErr
  cases hm : may y
  · have Hm := Lib.hid hm;clear hm
    rw [if_neg (by decide)]
    go_enter Tryz.func145, Tryz.ntmps145
    go_wp2_with (go_at_call 188;refine (mayC _ _).mono ?_;rw [Hm.out];rintro e w' ⟨rfl, rfl⟩)
    go_ret2
    exact ⟨_, rfl, Below.refl _ _⟩
  · have Hm := Lib.hid hm;clear hm
    rw [if_pos rfl]
    go_enter Tryz.func145, Tryz.ntmps145
    go_wp2_with (first|(go_at_call 188;refine (mayC _ _).mono ?_;rw [Hm.out];rintro e w' ⟨rfl, rfl⟩)|(go_at_call 189;refine (Txt.Text _ (by omega) (by omega) _).mono ?_;rintro e w2 ⟨r, rfl, hb⟩))
    · go_ret2
      exact ⟨_, rfl, Below.refl _ _⟩
    · go_ret2
      exact ⟨_, rfl, hb⟩
theorem ToText (fr y : Int) (hy : I64 y) (w : World) : Calls Tryz.prog 144 #[.int .i64 fr, .int .i64 y] w (StrErr (toErr fr y) w) := by
  obtain ⟨y0, y1⟩ := hy
  unfold toErr
  cases hm : may y
  · have Hm := Lib.hid hm;clear hm
    rw [if_neg (by decide)]
    go_enter Tryz.func144, Tryz.ntmps144
    go_wp2_with (go_at_call 188;refine (mayC _ _).mono ?_;rw [Hm.out];rintro e w' ⟨rfl, rfl⟩)
    go_ret2
    exact ⟨_, rfl, Below.refl _ _⟩
  · have Hm := Lib.hid hm;clear hm
    rw [if_pos rfl]
    by_cases hlt : y < fr
    · rw [if_pos hlt]
      go_enter Tryz.func144, Tryz.ntmps144
      go_wp2_with (go_at_call 188;refine (mayC _ _).mono ?_;rw [Hm.out];rintro e w' ⟨rfl, rfl⟩)
      go_ret2
      exact ⟨_, rfl, Below.refl _ _⟩
    · rw [if_neg hlt]
      go_enter Tryz.func144, Tryz.ntmps144
      go_wp2_with (first|(go_at_call 188;refine (mayC _ _).mono ?_;rw [Hm.out];rintro e w' ⟨rfl, rfl⟩)|(go_at_call 189;refine (Txt.Text _ (by omega) (by omega) _).mono ?_;rintro e w2 ⟨r, rfl, hb⟩))
      all_goals
        go_ret2
        first
          | exact ⟨_, rfl, hb⟩
          | exact ⟨_, rfl, Below.refl _ _⟩
def clockRight (sec base : Int) : Bool := decide (0 ≤ base ∧ base ≤ 2 ∧ 0 ≤ sec ∧ sec ≤ 172800)
theorem ClockRight (sec base : Int) (w : World) : Calls Tryz.prog 86 #[.agg #[.int .i64 sec, .int .i64 base]] w fun e w' => e = .returned (.bool (clockRight sec base)) ∧ Below w.heap.size w w' := by
  go_enter Tryz.func86, Tryz.ntmps86
  go_wp2
  all_goals
    go_ret
    refine ⟨ret_bool ?_, (Below.refl _ _).alloc (Nat.le_refl _) _⟩
    unfold clockRight
    rw [Bool.eq_iff_iff]
    simp only [beq_iff_eq, beq_eq_false_iff_ne, ne_eq, decide_eq_true_eq, Bool.false_eq_true, false_iff] at *
    omega
def saves (n : Int) : Bool := decide (-10800 ≤ n) && decide (n ≤ 10800)
theorem Saves (n : Int) (w : World) : Calls Tryz.prog 147 #[.int .i64 n] w fun e w' => e = .returned (.bool (saves n)) ∧ w = w' := by
  unfold saves
  go_enter Tryz.func147, Tryz.ntmps147
  go_wp2
  all_goals
    go_ret
    refine ⟨ret_bool ?_, rfl⟩
    simp [*]
    try omega
def letErr (s : ByteArray) : Int := if Fmt.letterOK s then 0 else 4
theorem LetterText' (s : ByteArray) (hs : s.size ≤ 9223372036854775807) (w : World) : Calls Tryz.prog 146 #[.string s] w fun e w' => e = .returned (.tuple #[.string (Fmt.ltext s), .int .i64 (letErr s)]) ∧ Below w.heap.size w w' := Fmt.LetterText s hs w
def right (r : RuleV) : Bool := ((toErr r.fr r.to == 0) && (frErr r.fr == 0) && (letErr r.letter == 0)) && (Nam.nameE r.name == 0) && Day.fits r.kind r.week r.day r.month && clockRight r.sec r.base && saves r.save

set_option maxHeartbeats 3200000 in
theorem Right (r : RuleV) (hr : r.Fit) (w : World) : Calls Tryz.prog 98 #[.agg r.cells.toArray] w fun e w' => e = .returned (.bool (right r)) ∧ Below w.heap.size w w' := by
  obtain ⟨hn, hl, hfr, hto, hsec, hsave⟩ := hr
  have Hfr := Lib.hid hfr
  have Hto := Lib.hid hto
  clear hfr hto hsec hsave
  unfold RuleV.cells
  go_enter Tryz.func98, Tryz.ntmps98
  go_wp2_with (first
    | (go_at_call 144;refine (ToText _ _ Hto.out _).mono ?_;rintro e w1 ⟨s1, rfl, hb1⟩;obtain ⟨hc1, hf1⟩ := bcell hb1;have hz1 : w.heap.size < w1.heap.size := by (have := hb1.size;simp at this;omega))
    | (go_at_call 145;refine (FromText _ Hfr.out _).mono ?_;rintro e w2 ⟨s2, rfl, hb2⟩;obtain ⟨hc2, hf2⟩ := bcell hb2;have hz2 : w.heap.size < w2.heap.size := by (have := hb2.size;omega))
    | (go_at_call 146;refine (LetterText' _ hl _).mono ?_;rintro e w3 ⟨rfl, hb3⟩;obtain ⟨hc3, hf3⟩ := bcell hb3;have hz3 : w.heap.size < w3.heap.size := by (have := hb3.size;omega))
    | (go_at_call 54;refine (Nam.Name _ hn _).mono ?_;rintro e w4 ⟨rfl, hb4⟩;obtain ⟨hc4, hf4⟩ := bcell hb4;have hz4 : w.heap.size < w4.heap.size := by (have := hb4.size;omega))
    | (go_at_call 85;refine (Day.Fits _ _ _ _ _).mono ?_;rintro e w5 ⟨rfl, hb5⟩;obtain ⟨hc5, hf5⟩ := bcell hb5;have hz5 : w.heap.size < w5.heap.size := by (have := hb5.size;omega))
    | (go_at_call 86;refine (ClockRight _ _ _).mono ?_;rintro e w6 ⟨rfl, hb6⟩;obtain ⟨hc6, hf6⟩ := bcell hb6;have hz6 : w.heap.size < w6.heap.size := by (have := hb6.size;omega))
    | (go_at_call 147;refine (Saves _ _).mono ?_;rintro e w7 ⟨rfl, rfl⟩))
  all_goals
    go_ret
    refine ⟨ret_bool ?_, ?_⟩
    · simp [right, *]
    · first
        | exact ((((((((Below.refl _ _).alloc (Nat.le_refl _) _).trans (hb1.mono (by simp))).trans (hb2.mono (by omega))).trans (hb3.mono (by omega))).trans (hb4.mono (by omega))).trans (hb5.mono (by omega))).trans (hb6.mono (by omega)))
        | exact (((((((Below.refl _ _).alloc (Nat.le_refl _) _).trans (hb1.mono (by simp))).trans (hb2.mono (by omega))).trans (hb3.mono (by omega))).trans (hb4.mono (by omega))).trans (hb5.mono (by omega)))
        | exact ((((((Below.refl _ _).alloc (Nat.le_refl _) _).trans (hb1.mono (by simp))).trans (hb2.mono (by omega))).trans (hb3.mono (by omega))).trans (hb4.mono (by omega)))
        | exact (((((Below.refl _ _).alloc (Nat.le_refl _) _).trans (hb1.mono (by simp))).trans (hb2.mono (by omega))).trans (hb3.mono (by omega)))
end Rul
end Go.Proofs.YtecmipgpldcfcaaGreatDoor
