import Derived.Test.YtcfmchpoclkpgaaGreatDoorG1
import Derived.Test.YtcfmchpoclkpgaaGreatDoorProg
namespace Go.Proofs.YtcfmchpoclkpgaaGreatDoor
open Go.RowKit NB
namespace Num

theorem div_tail (w : World) (n : Nat) : Below w.heap.size w (w.drewN n) := ⟨rfl, rfl, rfl, Nat.le_refl _, fun _ _ => rfl⟩

set_option maxHeartbeats 400000 in
theorem Div (a b : Int) (h0 : -9223372036854775808 < a) (h1 : a ≤ 9223372036854775807) (h2 : 1 ≤ b) (h3 : b ≤ 4611686018427387904) (w : World) :
    Calls Tryz.prog 286 #[.int .i64 a, .int .i64 b] w fun e w' => e = .returned (.tuple #[.int .i64 (a / b), .int .i64 (a % b), .int .i64 0]) ∧ Below w.heap.size w w' := by
  have hr := Int.emod_nonneg a (show b ≠ 0 by omega)
  have hr2 := Int.emod_lt_of_pos a (show 0 < b by omega)
  have hg : (a == -9223372036854775808) = false := by simp;omega
  have hb0 : (b == 0) = false := by simp;omega
  have hb1 : (b == -1) = false := by simp;omega
  by_cases ha : 0 ≤ a
  · have hq := Int.ediv_nonneg ha (show 0 ≤ b by omega)
    have hq2 : a / b ≤ a := Int.ediv_le_self _ ha
    have hx : ¬ bits .xor .i64 (a % b) b < 0 := by
      rw [Pl.xor_neg _ _ (by omega) (by omega) (by omega) (by omega)];omega
    by_cases hz : a % b = 0
    · have hzz : (a % b == 0) = true := by simp [hz]
      clear hx
      go_enter Tryz.func286, Tryz.ntmps286
      go_wp2
      go_quiet (fail)
      go_wp2
      go_ret3
      exact ⟨rfl, div_tail _ _⟩
    · have hzz : (a % b == 0) = false := by simp [hz]
      have hzn : (a % b != 0) = true := by simp [hz]
      go_enter Tryz.func286, Tryz.ntmps286
      go_wp2
      go_quiet (fail)
      go_wp2
      go_ret3
      exact ⟨rfl, div_tail _ _⟩
  · by_cases hz : a % b = 0
    · have e1 := Pl.tdiv_ex a b hz
      have e2 := Pl.tmod_ex a b hz
      rw [hz, ← e1]
      have hq : -9223372036854775808 ≤ a.tdiv b ∧ a.tdiv b ≤ 0 := by
        rw [e1]
        have h4 : b * (a / b) + a % b = a := Int.mul_ediv_add_emod a b
        rw [hz] at h4
        have h5 : a / b < 0 := Int.ediv_neg_of_neg_of_pos (by omega) (by omega)
        have h6 : (b - 1) * (a / b) ≤ 0 := Int.mul_nonpos_of_nonneg_of_nonpos (by omega) (by omega)
        have h7 : (b - 1) * (a / b) = b * (a / b) - a / b := by rw [Int.sub_mul, Int.one_mul]
        omega
      obtain ⟨hq1, hq2⟩ := hq
      have hm : a.tmod b = 0 := e2
      have Hz := Lib.hid hz
      have E1 := Lib.hid e1
      clear hz e1 e2
      go_enter Tryz.func286, Tryz.ntmps286
      go_wp2
      all_goals go_quiet (fail)
      all_goals go_wp2
      all_goals go_ret3
      all_goals exact ⟨rfl, div_tail _ _⟩
    · have e1 := Pl.tdiv_neg' a b (by omega) (by omega) hz
      have e2 := Pl.tmod_neg' a b (by omega) (by omega) hz
      have h4 : b * (a / b) + a % b = a := Int.mul_ediv_add_emod a b
      have h5 : a / b < 0 := Int.ediv_neg_of_neg_of_pos (by omega) (by omega)
      have h6 : (b - 1) * (a / b + 1) ≤ 0 := Int.mul_nonpos_of_nonneg_of_nonpos (by omega) (by omega)
      have h7 : (b - 1) * (a / b + 1) = b * (a / b) - a / b + b - 1 := by rw [Int.sub_mul, Int.one_mul, Int.mul_add];omega
      have q1 : -9223372036854775808 ≤ a.tdiv b - 1 := by rw [e1];omega
      have q2 : a.tdiv b ≤ 0 := by rw [e1];omega
      have r1 : a.tmod b < 0 := by rw [e2];omega
      have r2 : -4611686018427387904 ≤ a.tmod b := by rw [e2];omega
      have hx : bits .xor .i64 (a.tmod b) b < 0 := by
        rw [Pl.xor_neg _ _ (by omega) (by omega) (by omega) (by omega)];omega
      have hzz : (a.tmod b == 0) = false := by simp;omega
      have hzn : (a.tmod b != 0) = true := by simp;omega
      rw [show a / b = a.tdiv b - 1 by omega, show a % b = a.tmod b + b by omega]
      have E1 := Lib.hid e1
      have E2 := Lib.hid e2
      have H4 := Lib.hid h4
      have H7 := Lib.hid h7
      have HZ := Lib.hid hz
      clear e1 e2 h4 h5 h6 h7 hz hr hr2
      go_enter Tryz.func286, Tryz.ntmps286
      go_wp2
      all_goals go_quiet (fail)
      all_goals go_wp2
      all_goals go_ret3
      all_goals exact ⟨rfl, div_tail _ _⟩

theorem Clamp (n lo hi : Int) (w : World) : Calls Tryz.prog 137 #[.int .i64 n, .int .i64 lo, .int .i64 hi] w fun e w' => e = .returned (.int .i64 (if n < lo then lo else if hi < n then hi else n)) ∧ w = w' := by
  by_cases h1 : n < lo
  · rw [if_pos h1]
    go_enter Tryz.func137, Tryz.ntmps137
    go_wp2
    go_ret
    exact ⟨rfl, rfl⟩
  · rw [if_neg h1]
    by_cases h2 : hi < n
    · rw [if_pos h2]
      go_enter Tryz.func137, Tryz.ntmps137
      go_wp2
      go_ret
      exact ⟨rfl, rfl⟩
    · rw [if_neg h2]
      go_enter Tryz.func137, Tryz.ntmps137
      go_wp2
      go_ret
      exact ⟨rfl, rfl⟩
end Num
end Go.Proofs.YtcfmchpoclkpgaaGreatDoor
namespace Go.Proofs.YtcfmchpoclkpgaaGreatDoor
namespace Cal
def leap (y : Int) : Bool := decide (y % 4 = 0) && (!decide (y % 100 = 0) || decide (y % 400 = 0))
def lp (y : Int) : Int := if leap y then 1 else 0
def leaps (y : Int) : Int := y / 4 - y / 100 + y / 400
def ahead (y : Int) : Int := 365 * (y - 1970) + leaps (y - 1) - leaps 1969
def cum (y m : Int) : Int :=
  if m ≤ 1 then 0 else if m = 2 then 31 else
  (if m = 3 then 59 else if m = 4 then 90 else if m = 5 then 120 else if m = 6 then 151 else if m = 7 then 181 else if m = 8 then 212 else if m = 9 then 243 else if m = 10 then 273 else if m = 11 then 304 else if m = 12 then 334 else 365) + lp y
def len (y m : Int) : Int :=
  if m = 1 ∨ m = 3 ∨ m = 5 ∨ m = 7 ∨ m = 8 ∨ m = 10 ∨ m = 12 then 31 else if m = 4 ∨ m = 6 ∨ m = 9 ∨ m = 11 then 30 else if m = 2 then 28 + lp y else 0
def days (y m d : Int) : Int := ahead y + cum y m + d - 1
def y0 (y m : Int) : Int := if m < 3 then y - 1 else y
def m0 (m : Int) : Int := if m < 3 then m + 9 else m - 3
def number (y m d : Int) : Int :=
  y0 y m / 400 * 146097 + y0 y m % 400 * 365 + y0 y m % 400 / 4 - y0 y m % 400 / 100 + ((153 * m0 m + 2) / 5 + d - 1) - 719468
theorem lp_eq (y : Int) : lp y = (y / 4 - (y - 1) / 4) - (y / 100 - (y - 1) / 100) + (y / 400 - (y - 1) / 400) := by
  unfold lp leap
  by_cases h4 : y % 4 = 0 <;> by_cases h100 : y % 100 = 0 <;> by_cases h400 : y % 400 = 0 <;> simp [h4, h100, h400] <;> omega
theorem lp_01 (y : Int) : 0 ≤ lp y ∧ lp y ≤ 1 := by unfold lp;split <;> omega
theorem ahead_succ (y : Int) : ahead (y + 1) = ahead y + 365 + lp y := by
  have := lp_eq y
  unfold ahead leaps
  have h : y + 1 - 1 = y := by omega
  rw [h];omega
theorem months {m : Int} (h1 : 1 ≤ m) (h2 : m ≤ 12) : m = 1 ∨ m = 2 ∨ m = 3 ∨ m = 4 ∨ m = 5 ∨ m = 6 ∨ m = 7 ∨ m = 8 ∨ m = 9 ∨ m = 10 ∨ m = 11 ∨ m = 12 := by omega
theorem number_eq (y m d : Int) (h1 : 1 ≤ m) (h2 : m ≤ 12) : number y m d = days y m d := by
  have hl := lp_eq y
  unfold days ahead leaps number y0 m0 cum
  rcases months h1 h2 with rfl|rfl|rfl|rfl|rfl|rfl|rfl|rfl|rfl|rfl|rfl|rfl <;> simp <;> omega
theorem len_bd (y m : Int) (h1 : 1 ≤ m) (h2 : m ≤ 12) : 28 ≤ len y m ∧ len y m ≤ 31 := by
  have := lp_01 y
  unfold len
  split
  · omega
  split
  · omega
  split <;> omega
theorem len_out (y m : Int) (h : m < 1 ∨ 12 < m) : len y m = 0 := by
  unfold len
  rw [if_neg (by omega), if_neg (by omega), if_neg (by omega)]
theorem len_le (y m : Int) : 0 ≤ len y m ∧ len y m ≤ 31 := by
  by_cases h : m < 1 ∨ 12 < m
  · rw [len_out y m h];omega
  · have := len_bd y m (by omega) (by omega);omega
theorem cum_bd (y m : Int) (h1 : 1 ≤ m) (h2 : m ≤ 12) : 0 ≤ cum y m ∧ cum y m + len y m ≤ 365 + lp y := by
  have := lp_01 y
  unfold cum len
  rcases months h1 h2 with rfl|rfl|rfl|rfl|rfl|rfl|rfl|rfl|rfl|rfl|rfl|rfl <;> simp <;> omega
theorem ahead_bd (y : Int) (h1 : -40001 ≤ y) (h2 : y ≤ 40002) : -15400000 ≤ ahead y ∧ ahead y ≤ 14000000 := by unfold ahead leaps;omega
theorem ahead_mono {a b : Int} (h : a ≤ b) : ahead a + 365 * (b - a) ≤ ahead b := by unfold ahead leaps;omega
theorem leap_alt (y : Int) : leap y = (decide (y % 4 = 0) && (decide (y % 25 ≠ 0) || decide (y % 16 = 0))) := by
  unfold leap
  by_cases h4 : y % 4 = 0
  · by_cases h25 : y % 25 = 0
    · have e100 : y % 100 = 0 := by omega
      by_cases h16 : y % 16 = 0
      · have : y % 400 = 0 := by omega
        simp [h4, h25, h16, this]
      · have : ¬ y % 400 = 0 := by omega
        simp [h4, h25, h16, this, e100]
    · have e100 : ¬ y % 100 = 0 := by omega
      simp [h4, h25, e100]
  · simp [h4]
end Cal
end Go.Proofs.YtcfmchpoclkpgaaGreatDoor
namespace Go.Proofs.YtcfmchpoclkpgaaGreatDoor
open Go.RowKit NB
namespace Civ

theorem Leap (y : Int) (w : World) : Calls Tryz.prog 251 #[.int .i64 y] w fun e w' => e = .returned (.bool (Cal.leap y)) ∧ w = w' := by
  have hA := Pl.and3 y
  have hB := Pl.and15 y
  have hC : (y.tmod 25 == 0) = decide (y % 25 = 0) := by
    by_cases h : y % 25 = 0
    · simp [h, Pl.tmod_ex y 25 h]
    · have : y.tmod 25 ≠ 0 := by
        intro h';exact h (Int.emod_eq_zero_of_dvd (Int.dvd_of_tmod_eq_zero h'))
      simp [h, this]
  rw [Cal.leap_alt]
  by_cases h4 : y % 4 = 0
  · have t4 : (y % 4 == 0) = true := by simp [h4]
    by_cases h25 : y % 25 = 0
    · have t25 : (y.tmod 25 == 0) = true := by rw [hC];simp [h25]
      have n25 : (y.tmod 25 != 0) = false := by rw [bne, t25];rfl
      by_cases h16 : y % 16 = 0
      · have t16 : (y % 16 == 0) = true := by simp [h16]
        have hf : (decide (y % 4 = 0) && (decide (y % 25 ≠ 0) || decide (y % 16 = 0))) = true := by simp [h4, h16]
        rw [hf]
        clear hC h4 h25 h16 hf
        go_enter Tryz.func251, Tryz.ntmps251
        go_wp2
        go_ret
        exact ⟨rfl, rfl⟩
      · have t16 : (y % 16 == 0) = false := by simp [h16]
        have hf : (decide (y % 4 = 0) && (decide (y % 25 ≠ 0) || decide (y % 16 = 0))) = false := by simp [h25, h16]
        rw [hf]
        clear hC h4 h25 h16 hf
        go_enter Tryz.func251, Tryz.ntmps251
        go_wp2
        go_ret
        exact ⟨rfl, rfl⟩
    · have t25 : (y.tmod 25 == 0) = false := by rw [hC];simp [h25]
      have n25 : (y.tmod 25 != 0) = true := by rw [bne, t25];rfl
      have hf : (decide (y % 4 = 0) && (decide (y % 25 ≠ 0) || decide (y % 16 = 0))) = true := by simp [h4, h25]
      rw [hf]
      clear hC h4 h25 hf
      go_enter Tryz.func251, Tryz.ntmps251
      go_wp2
      go_ret
      exact ⟨rfl, rfl⟩
  · have t4 : (y % 4 == 0) = false := by simp [h4]
    have hf : (decide (y % 4 = 0) && (decide (y % 25 ≠ 0) || decide (y % 16 = 0))) = false := by simp [h4]
    rw [hf]
    clear hC h4 hf
    go_enter Tryz.func251, Tryz.ntmps251
    go_wp2
    go_ret
    exact ⟨rfl, rfl⟩

set_option maxHeartbeats 800000 in
theorem Len (y m : Int) (w : World) : Calls Tryz.prog 193 #[.int .i64 y, .int .i64 m] w fun e w' => e = .returned (.int .i64 (Cal.len y m)) ∧ w = w' := by
  by_cases h : m < 1 ∨ 12 < m
  · rw [Cal.len_out y m h]
    have e1 : (m == 1) = false := by simp;omega
    have e2 : (m == 2) = false := by simp;omega
    have e3 : (m == 3) = false := by simp;omega
    have e4 : (m == 4) = false := by simp;omega
    have e5 : (m == 5) = false := by simp;omega
    have e6 : (m == 6) = false := by simp;omega
    have e7 : (m == 7) = false := by simp;omega
    have e8 : (m == 8) = false := by simp;omega
    have e9 : (m == 9) = false := by simp;omega
    have e10 : (m == 10) = false := by simp;omega
    have e11 : (m == 11) = false := by simp;omega
    have e12 : (m == 12) = false := by simp;omega
    clear h
    go_enter Tryz.func193, Tryz.ntmps193
    go_wp2
    go_ret
    exact ⟨rfl, rfl⟩
  · by_cases h2 : m = 2
    · subst h2
      clear h
      cases hl : Cal.leap y
      all_goals
        have e : Cal.len y 2 = if Cal.leap y then 29 else 28 := by
          unfold Cal.len Cal.lp
          rw [if_neg (by decide), if_neg (by decide), if_pos rfl]
          split <;> rfl
        rw [e, hl]
        clear e
        have Hl := Lib.hid hl
        clear hl
        go_enter Tryz.func193, Tryz.ntmps193
        go_wp2_with (go_at_call 251;refine (Leap y _).mono ?_;rw [Hl.out];rintro e w' ⟨rfl, rfl⟩)
        go_ret
        exact ⟨rfl, rfl⟩
    · rcases Cal.months (m := m) (by omega) (by omega) with rfl|rfl|rfl|rfl|rfl|rfl|rfl|rfl|rfl|rfl|rfl|rfl
      all_goals
        clear h
        first
          | (exfalso;exact h2 rfl)
          | (clear h2
             go_enter Tryz.func193, Tryz.ntmps193
             go_wp2
             go_ret
             exact ⟨rfl, rfl⟩)

def right (y m d : Int) : Bool := decide (-40000 ≤ y) && decide (y ≤ 40000) && decide (1 ≤ d) && decide (d ≤ Cal.len y m)

set_option maxHeartbeats 800000 in
theorem Right (y m d : Int) (w : World) : Calls Tryz.prog 252 #[.agg #[.int .i64 y, .int .i64 m, .int .i64 d]] w fun e w' => e = .returned (.bool (right y m d)) ∧ Below w.heap.size w w' := by
  unfold right
  by_cases h1 : -40000 ≤ y
  case neg =>
    have d1 : decide (-40000 ≤ y) = false := by simpa using h1
    rw [d1]
    go_enter Tryz.func252, Tryz.ntmps252
    go_wp2
    go_quiet (fail)
    go_wp2
    go_ret
    exact ⟨rfl, below_drewN ((Below.refl _ _).alloc (Nat.le_refl _) _) _⟩
  case pos =>
    by_cases h2 : y ≤ 40000
    case neg =>
      have d1 : decide (y ≤ 40000) = false := by simpa using h2
      rw [d1]
      go_enter Tryz.func252, Tryz.ntmps252
      go_wp2
      go_quiet (fail)
      go_wp2
      go_ret
      exact ⟨by simp, below_drewN ((Below.refl _ _).alloc (Nat.le_refl _) _) _⟩
    case pos =>
      by_cases h3 : 1 ≤ d
      case neg =>
        have d1 : decide (1 ≤ d) = false := by simpa using h3
        rw [d1]
        go_enter Tryz.func252, Tryz.ntmps252
        go_wp2
        go_quiet (fail)
        go_wp2
        go_ret
        exact ⟨by simp, below_drewN ((Below.refl _ _).alloc (Nat.le_refl _) _) _⟩
      case pos =>
        have hf : (decide (-40000 ≤ y) && decide (y ≤ 40000) && decide (1 ≤ d) && decide (d ≤ Cal.len y m)) = decide (d ≤ Cal.len y m) := by simp [h1, h2, h3]
        rw [hf]
        clear hf
        go_enter Tryz.func252, Tryz.ntmps252
        go_wp2
        go_quiet ((go_at_call 193;exact quiet_left (Len _ _ _)))
        go_wp2
        go_ret
        exact ⟨rfl, below_drewN ((Below.refl _ _).alloc (Nat.le_refl _) _) _⟩

theorem march (m : Int) (h0 : 0 ≤ m) (h1 : m ≤ 100) (w : World) : Calls Tryz.prog 287 #[.int .i64 m] w fun e w' => e = .returned (.int .i64 ((153 * m + 2) / 5)) ∧ w = w' := by
  go_enter Tryz.func287, Tryz.ntmps287
  go_wp2
  go_ret
  exact ⟨rfl, rfl⟩
end Civ
end Go.Proofs.YtcfmchpoclkpgaaGreatDoor
