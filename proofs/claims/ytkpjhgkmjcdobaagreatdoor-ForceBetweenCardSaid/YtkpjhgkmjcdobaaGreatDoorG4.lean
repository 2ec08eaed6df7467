import Derived.Test.YtkpjhgkmjcdobaaGreatDoorG1
import Derived.Test.YtkpjhgkmjcdobaaGreatDoorProg
/-
  noontideref01: Div, Floor, Rest and Clamp, as the program runs them.
-/
namespace Go.Proofs.YtkpjhgkmjcdobaaGreatDoor
open Go.RowKit NB
namespace RNum
set_option maxHeartbeats 400000 in
theorem Div (a b : Int) (h0 : -9223372036854775808 < a) (h1 : a ≤ 9223372036854775807) (h2 : 1 ≤ b) (h3 : b ≤ 4611686018427387904) (w : World) :
    Calls Tryz.prog 169 #[.int .i64 a, .int .i64 b] w fun e w' => e = .returned (.tuple #[.int .i64 (a / b), .int .i64 (a % b), .int .i64 0]) ∧ w = w' := by
  have hr := Int.emod_nonneg a (show b ≠ 0 by omega)
  have hr2 := Int.emod_lt_of_pos a (show 0 < b by omega)
  have hg : (a == -9223372036854775808) = false := by simp; omega
  have hb0 : (b == 0) = false := by simp; omega
  have hb1 : (b == -1) = false := by simp; omega
  have db : decide (b < 0) = false := by simp; omega
  have dm : decide (a % b < 0) = false := by simp; omega
  by_cases ha : 0 ≤ a
  · have hq := Int.ediv_nonneg ha (show 0 ≤ b by omega)
    have hq2 : a / b ≤ a := Int.ediv_le_self _ ha
    by_cases hz : a % b = 0
    · have hzz : (a % b == 0) = true := by simp [hz]
      go_enter Tryz.func169, Tryz.ntmps169
      go_wp2
      go_ret3
      exact ⟨rfl, rfl⟩
    · have hzz : (a % b == 0) = false := by simp [hz]
      have hzn : (a % b != 0) = true := by simp [hz]
      go_enter Tryz.func169, Tryz.ntmps169
      go_wp2
      go_ret3
      exact ⟨rfl, rfl⟩
  · by_cases hz : a % b = 0
    · have e1 := Pl.tdiv_ex a b hz
      have e2 := Pl.tmod_ex a b hz
      rw [hz, ← e1]
      have hq : -9223372036854775808 ≤ a.tdiv b ∧ a.tdiv b ≤ 0 := by
        rw [e1]
        have h4 : b * (a / b) + a % b = a := Int.mul_ediv_add_emod a b
        rw [hz] at h4
        have h5 : a / b < 0 := Int.ediv_neg_of_neg_of_pos (by omega) (by omega)
        have h6 : (b - 1) * (a / b) ≤ 0 := Int.mul_nonpos_of_nonneg_of_nonpos (by omega) (by omega)
        have h7 : (b - 1) * (a / b) = b * (a / b) - a / b := by rw [Int.sub_mul, Int.one_mul]
        omega
      obtain ⟨hq1, hq2⟩ := hq
      have hm : a.tmod b = 0 := e2
      have Hz := Lib.hid hz
      have E1 := Lib.hid e1
      clear hz e1 e2
      go_enter Tryz.func169, Tryz.ntmps169
      go_wp2
      all_goals go_ret3
      all_goals exact ⟨rfl, rfl⟩
    · have e1 := Pl.tdiv_neg' a b (by omega) (by omega) hz
      have e2 := Pl.tmod_neg' a b (by omega) (by omega) hz
      have h4 : b * (a / b) + a % b = a := Int.mul_ediv_add_emod a b
      have h5 : a / b < 0 := Int.ediv_neg_of_neg_of_pos (by omega) (by omega)
      have h6 : (b - 1) * (a / b + 1) ≤ 0 := Int.mul_nonpos_of_nonneg_of_nonpos (by omega) (by omega)
      have h7 : (b - 1) * (a / b + 1) = b * (a / b) - a / b + b - 1 := by rw [Int.sub_mul, Int.one_mul, Int.mul_add]; omega
      have q1 : -9223372036854775808 ≤ a.tdiv b - 1 := by rw [e1]; omega
      have q2 : a.tdiv b ≤ 0 := by rw [e1]; omega
      have r1 : a.tmod b < 0 := by rw [e2]; omega
      have r2 : -4611686018427387904 ≤ a.tmod b := by rw [e2]; omega
      have hzz : (a.tmod b == 0) = false := by simp; omega
      have hzn : (a.tmod b != 0) = true := by simp; omega
      have dt : decide (a.tmod b < 0) = true := by simp; omega
      rw [show a / b = a.tdiv b - 1 by omega, show a % b = a.tmod b + b by omega]
      have E1 := Lib.hid e1
      have E2 := Lib.hid e2
      have H4 := Lib.hid h4
      have H7 := Lib.hid h7
      have HZ := Lib.hid hz
      clear e1 e2 h4 h5 h6 h7 hz hr hr2
      go_enter Tryz.func169, Tryz.ntmps169
      go_wp2
      all_goals go_ret3
      all_goals exact ⟨rfl, rfl⟩
theorem Floor (a b : Int) (h0 : -9223372036854775808 < a) (h1 : a ≤ 9223372036854775807) (h2 : 1 ≤ b) (h3 : b ≤ 4611686018427387904) (w : World) :
    Calls Tryz.prog 181 #[.int .i64 a, .int .i64 b] w fun e w' => e = .returned (.int .i64 (a / b)) ∧ w = w' := by
  have cd := Div a b h0 h1 h2 h3
  generalize a / b = q at *
  generalize a % b = r at *
  have Cd := Lib.hid cd
  clear cd
  go_enter Tryz.func181, Tryz.ntmps181
  go_wp2_with (go_at_call 169; (with_reducible refine (Cd.out _).mono ?_); rintro e w' ⟨rfl, rfl⟩)
  go_ret
  exact ⟨rfl, rfl⟩
theorem Rest (a b : Int) (h0 : -9223372036854775808 < a) (h1 : a ≤ 9223372036854775807) (h2 : 1 ≤ b) (h3 : b ≤ 4611686018427387904) (w : World) :
    Calls Tryz.prog 132 #[.int .i64 a, .int .i64 b] w fun e w' => e = .returned (.int .i64 (a % b)) ∧ w = w' := by
  have cd := Div a b h0 h1 h2 h3
  generalize a / b = q at *
  generalize a % b = r at *
  have Cd := Lib.hid cd
  clear cd
  go_enter Tryz.func132, Tryz.ntmps132
  go_wp2_with (go_at_call 169; (with_reducible refine (Cd.out _).mono ?_); rintro e w' ⟨rfl, rfl⟩)
  go_ret
  exact ⟨rfl, rfl⟩
theorem Clamp (n lo hi : Int) (w : World) : Calls Tryz.prog 102 #[.int .i64 n, .int .i64 lo, .int .i64 hi] w fun e w' => e = .returned (.int .i64 (if n < lo then lo else if hi < n then hi else n)) ∧ w = w' := by
  by_cases h1 : n < lo
  · rw [if_pos h1]
    go_enter Tryz.func102, Tryz.ntmps102
    go_wp2
    go_ret
    exact ⟨rfl, rfl⟩
  · rw [if_neg h1]
    by_cases h2 : hi < n
    · rw [if_pos h2]
      go_enter Tryz.func102, Tryz.ntmps102
      go_wp2
      go_ret
      exact ⟨rfl, rfl⟩
    · rw [if_neg h2]
      go_enter Tryz.func102, Tryz.ntmps102
      go_wp2
      go_ret
      exact ⟨rfl, rfl⟩
end RNum
end Go.Proofs.YtkpjhgkmjcdobaaGreatDoor
/-
  The calendar in plain integers.
-/
namespace Go.Proofs.YtkpjhgkmjcdobaaGreatDoor
namespace Cal
/-- leap years, as the document has them -/
def leap (y : Int) : Bool := decide (y % 4 = 0) && (!decide (y % 100 = 0) || decide (y % 400 = 0))
def lp (y : Int) : Int := if leap y then 1 else 0
/-- how many leap years up to y -/
def leaps (y : Int) : Int := y / 4 - y / 100 + y / 400
/-- days ahead of a year, from 1970 on -/
def ahead (y : Int) : Int := 365 * (y - 1970) + leaps (y - 1) - leaps 1969
def cum (y m : Int) : Int :=
  if m ≤ 1 then 0 else if m = 2 then 31 else
  (if m = 3 then 59 else if m = 4 then 90 else if m = 5 then 120 else if m = 6 then 151 else if m = 7 then 181 else if m = 8 then 212 else if m = 9 then 243 else if m = 10 then 273 else if m = 11 then 304 else if m = 12 then 334 else 365) + lp y
def len (y m : Int) : Int :=
  if m = 1 ∨ m = 3 ∨ m = 5 ∨ m = 7 ∨ m = 8 ∨ m = 10 ∨ m = 12 then 31 else if m = 4 ∨ m = 6 ∨ m = 9 ∨ m = 11 then 30 else if m = 2 then 28 + lp y else 0
def days (y m d : Int) : Int := ahead y + cum y m + d - 1
/-- the program's number -/
def y0 (y m : Int) : Int := if m < 3 then y - 1 else y
def m0 (m : Int) : Int := if m < 3 then m + 9 else m - 3
def number (y m d : Int) : Int :=
  y0 y m / 400 * 146097 + y0 y m % 400 * 365 + y0 y m % 400 / 4 - y0 y m % 400 / 100 + ((153 * m0 m + 2) / 5 + d - 1) - 719468
theorem lp_eq (y : Int) : lp y = (y / 4 - (y - 1) / 4) - (y / 100 - (y - 1) / 100) + (y / 400 - (y - 1) / 400) := by
  unfold lp leap
  by_cases h4 : y % 4 = 0 <;> by_cases h100 : y % 100 = 0 <;> by_cases h400 : y % 400 = 0 <;> simp [h4, h100, h400] <;> omega
theorem lp_01 (y : Int) : 0 ≤ lp y ∧ lp y ≤ 1 := by unfold lp; split <;> omega
theorem ahead_succ (y : Int) : ahead (y + 1) = ahead y + 365 + lp y := by
  have := lp_eq y
  unfold ahead leaps
  have h : y + 1 - 1 = y := by omega
  rw [h]; omega
theorem months {m : Int} (h1 : 1 ≤ m) (h2 : m ≤ 12) : m = 1 ∨ m = 2 ∨ m = 3 ∨ m = 4 ∨ m = 5 ∨ m = 6 ∨ m = 7 ∨ m = 8 ∨ m = 9 ∨ m = 10 ∨ m = 11 ∨ m = 12 := by omega
theorem number_eq (y m d : Int) (h1 : 1 ≤ m) (h2 : m ≤ 12) : number y m d = days y m d := by
  have hl := lp_eq y
  unfold days ahead leaps number y0 m0 cum
  rcases months h1 h2 with rfl | rfl | rfl | rfl | rfl | rfl | rfl | rfl | rfl | rfl | rfl | rfl <;> simp <;> omega
theorem len_bd (y m : Int) (h1 : 1 ≤ m) (h2 : m ≤ 12) : 28 ≤ len y m ∧ len y m ≤ 31 := by
  have := lp_01 y
  unfold len
  split
  · omega
  split
  · omega
  split <;> omega
theorem len_out (y m : Int) (h : m < 1 ∨ 12 < m) : len y m = 0 := by
  unfold len
  rw [if_neg (by omega), if_neg (by omega), if_neg (by omega)]
theorem len_le (y m : Int) : 0 ≤ len y m ∧ len y m ≤ 31 := by
  by_cases h : m < 1 ∨ 12 < m
  · rw [len_out y m h]; omega
  · have := len_bd y m (by omega) (by omega); omega
theorem cum_succ (y m : Int) (h1 : 1 ≤ m) (h2 : m ≤ 12) : cum y (m + 1) = cum y m + len y m := by
  unfold cum len
  rcases months h1 h2 with rfl | rfl | rfl | rfl | rfl | rfl | rfl | rfl | rfl | rfl | rfl | rfl <;> simp <;> omega
theorem cum_bd (y m : Int) (h1 : 1 ≤ m) (h2 : m ≤ 12) : 0 ≤ cum y m ∧ cum y m + len y m ≤ 365 + lp y := by
  have := lp_01 y
  unfold cum len
  rcases months h1 h2 with rfl | rfl | rfl | rfl | rfl | rfl | rfl | rfl | rfl | rfl | rfl | rfl <;> simp <;> omega
theorem ahead_bd (y : Int) (h1 : -40001 ≤ y) (h2 : y ≤ 40002) : -15400000 ≤ ahead y ∧ ahead y ≤ 14000000 := by unfold ahead leaps; omega
theorem ahead_mono {a b : Int} (h : a ≤ b) : ahead a + 365 * (b - a) ≤ ahead b := by unfold ahead leaps; omega
theorem leap_alt (y : Int) : leap y = (decide (y % 4 = 0) && (decide (y % 25 ≠ 0) || decide (y % 16 = 0))) := by
  unfold leap
  by_cases h4 : y % 4 = 0
  · by_cases h25 : y % 25 = 0
    · have e100 : y % 100 = 0 := by omega
      by_cases h16 : y % 16 = 0
      · have : y % 400 = 0 := by omega
        simp [h4, h25, h16, this]
      · have : ¬ y % 400 = 0 := by omega
        simp [h4, h25, h16, this, e100]
    · have e100 : ¬ y % 100 = 0 := by omega
      simp [h4, h25, e100]
  · simp [h4]
end Cal
end Go.Proofs.YtkpjhgkmjcdobaaGreatDoor
/-
  The year, the month and the day of a number of days, in plain integers.
-/
namespace Go.Proofs.YtkpjhgkmjcdobaaGreatDoor
namespace Yr
def G (r : Int) : Int := r - r/1460 + r/36524 - r/146096
def F (r : Int) : Int := G r / 365
def S (y : Int) : Int := 365*y + y/4 - y/100 + y/400
theorem G_succ (r : Int) : G r ≤ G (r + 1) := by unfold G; omega
theorem G_mono (r : Int) (n : Nat) : G r ≤ G (r + n) := by
  induction n with
  | zero => simp
  | succ n ih =>
    have := G_succ (r + n)
    rw [show r + ((n + 1 : Nat) : Int) = r + n + 1 by omega]
    omega
theorem F_mono {a b : Int} (h : a ≤ b) : F a ≤ F b := by
  have := G_mono a (b - a).toNat
  rw [show a + ((b - a).toNat : Int) = b by omega] at this
  exact Int.ediv_le_ediv (by decide) this
theorem ends : ∀ y : Fin 400, F (S (y.val : Int)) = y.val ∧ F (S (y.val + 1 : Int) - 1) = y.val := by decide +kernel
theorem find (r : Int) (h0 : 0 ≤ r) : ∀ n : Nat, r < S n → ∃ y : Nat, y < n ∧ S y ≤ r ∧ r < S (y + 1 : Int)
  | 0, h => by simp [S] at h; omega
  | n + 1, h => by
    by_cases hc : r < S n
    · obtain ⟨y, h1, h2⟩ := find r h0 n hc
      exact ⟨y, by omega, h2⟩
    · exact ⟨n, by omega, by omega, by simpa using h⟩
theorem yr (r : Int) (h0 : 0 ≤ r) (h1 : r < 146097) : 0 ≤ F r ∧ F r ≤ 399 ∧ S (F r) ≤ r ∧ r < S (F r + 1) := by
  obtain ⟨y, hy, h2, h3⟩ := find r h0 400 (by have : S ((400 : Nat) : Int) = 146097 := by decide
                                              omega)
  obtain ⟨e1, e2⟩ := ends ⟨y, hy⟩
  have m1 := F_mono h2
  have m2 := F_mono (show r ≤ S (y + 1 : Int) - 1 by omega)
  simp only at e1 e2
  have : F r = y := by omega
  rw [this]
  exact ⟨by omega, by omega, h2, h3⟩
def dq (n : Int) : Int := (n + 719468) / 146097
def dr (n : Int) : Int := (n + 719468) % 146097
def dy (n : Int) : Int := F (dr n)
def dl (n : Int) : Int := dr n - (365 * dy n + dy n / 4 - dy n / 100)
def dm (n : Int) : Int := (5 * dl n + 2) / 153
/-- the date of a number -/
def dY (n : Int) : Int := if 12 < dm n + 3 then dq n * 400 + dy n + 1 else dq n * 400 + dy n
def dM (n : Int) : Int := if 12 < dm n + 3 then dm n + 3 - 12 else dm n + 3
def dD (n : Int) : Int := dl n - (153 * dm n + 2) / 5 + 1
structure Valid (y m d : Int) : Prop where
  m1 : 1 ≤ m
  m2 : m ≤ 12
  d1 : 1 ≤ d
  d2 : d ≤ Cal.len y m
theorem dr_bd (n : Int) : 0 ≤ dr n ∧ dr n < 146097 := by unfold dr; omega
theorem lp_cycle (q y : Int) : Cal.lp (q * 400 + y + 1) = S (y + 1) - S y - 365 := by
  rw [Cal.lp_eq]
  unfold S
  have h1 : (q * 400 + y + 1) / 4 = 100 * q + (y + 1) / 4 := by omega
  have h2 : (q * 400 + y + 1) / 100 = 4 * q + (y + 1) / 100 := by omega
  have h3 : (q * 400 + y + 1) / 400 = q + (y + 1) / 400 := by omega
  have h4 : (q * 400 + y + 1 - 1) / 4 = 100 * q + y / 4 := by omega
  have h5 : (q * 400 + y + 1 - 1) / 100 = 4 * q + y / 100 := by omega
  have h6 : (q * 400 + y + 1 - 1) / 400 = q + y / 400 := by omega
  omega
theorem dl_eq (n : Int) : dl n = dr n - S (dy n) := by
  obtain ⟨h0, h1⟩ := dr_bd n
  obtain ⟨h2, h3, _, _⟩ := yr (dr n) h0 h1
  unfold dl S
  rw [show F (dr n) = dy n from rfl] at *
  have : dy n / 400 = 0 := by omega
  omega
theorem dl_bd (n : Int) : 0 ≤ dl n ∧ dl n ≤ 364 + Cal.lp (dq n * 400 + dy n + 1) := by
  obtain ⟨h0, h1⟩ := dr_bd n
  obtain ⟨h2, h3, h4, h5⟩ := yr (dr n) h0 h1
  rw [lp_cycle, dl_eq]
  rw [show F (dr n) = dy n from rfl] at *
  omega
theorem dm_bd (n : Int) : 0 ≤ dm n ∧ dm n ≤ 11 := by
  obtain ⟨h1, h2⟩ := dl_bd n
  have := Cal.lp_01 (dq n * 400 + dy n + 1)
  unfold dm; omega
theorem months0 {m : Int} (h1 : 0 ≤ m) (h2 : m ≤ 11) : m = 0 ∨ m = 1 ∨ m = 2 ∨ m = 3 ∨ m = 4 ∨ m = 5 ∨ m = 6 ∨ m = 7 ∨ m = 8 ∨ m = 9 ∨ m = 10 ∨ m = 11 := by omega
theorem valid (n : Int) : Valid (dY n) (dM n) (dD n) := by
  obtain ⟨h1, h2⟩ := dl_bd n
  have := Cal.lp_01 (dq n * 400 + dy n + 1)
  obtain ⟨h4, h5⟩ := dm_bd n
  have hd : dm n = (5 * dl n + 2) / 153 := rfl
  have hM : 1 ≤ dM n ∧ dM n ≤ 12 := by unfold dM; split <;> omega
  refine ⟨hM.1, hM.2, by unfold dD; omega, ?_⟩
  unfold dY dM dD Cal.len
  rcases months0 h4 h5 with h | h | h | h | h | h | h | h | h | h | h | h <;> rw [h] at hd ⊢ <;> simp <;> omega
theorem days_of (n : Int) : Cal.days (dY n) (dM n) (dD n) = n := by
  have hv := valid n
  rw [← Cal.number_eq _ _ _ hv.m1 hv.m2]
  obtain ⟨h4, h5⟩ := dm_bd n
  obtain ⟨g0, g1⟩ := dr_bd n
  obtain ⟨g2, g3, _, _⟩ := yr (dr n) g0 g1
  rw [show F (dr n) = dy n from rfl] at *
  have e0 : Cal.y0 (dY n) (dM n) = dq n * 400 + dy n := by unfold Cal.y0 dY dM; split <;> split <;> omega
  have e1 : Cal.m0 (dM n) = dm n := by unfold Cal.m0 dM; split <;> split <;> omega
  unfold Cal.number
  rw [e0, e1]
  have e2 : (dq n * 400 + dy n) / 400 = dq n := by omega
  have e3 : (dq n * 400 + dy n) % 400 = dy n := by omega
  rw [e2, e3]
  have e4 : dr n + 146097 * dq n = n + 719468 := by unfold dr dq; omega
  unfold dD dl
  omega
theorem ahead_le {y m d : Int} (h : Valid y m d) : Cal.ahead y ≤ Cal.days y m d ∧ Cal.days y m d < Cal.ahead (y + 1) := by
  have h1 := Cal.cum_bd y m h.m1 h.m2
  have h2 := Cal.ahead_succ y
  obtain ⟨_, _, _, _⟩ := h
  unfold Cal.days
  omega
theorem cum_mono {y m k : Int} (h1 : 1 ≤ m) (h2 : k ≤ 12) (h : m < k) : Cal.cum y m + Cal.len y m ≤ Cal.cum y k := by
  have := Cal.lp_01 y
  rw [← Cal.cum_succ y m h1 (by omega)]
  unfold Cal.cum
  rcases Cal.months h1 (by omega : m ≤ 12) with rfl | rfl | rfl | rfl | rfl | rfl | rfl | rfl | rfl | rfl | rfl | rfl <;>
    rcases Cal.months (m := k) (by omega) h2 with rfl | rfl | rfl | rfl | rfl | rfl | rfl | rfl | rfl | rfl | rfl | rfl <;> simp at h ⊢ <;> omega
theorem unique {y m d y' m' d' : Int} (h : Valid y m d) (h' : Valid y' m' d') (he : Cal.days y m d = Cal.days y' m' d') : y = y' ∧ m = m' ∧ d = d' := by
  obtain ⟨a1, a2⟩ := ahead_le h
  obtain ⟨b1, b2⟩ := ahead_le h'
  have hy : y = y' := by
    rcases Int.lt_trichotomy y y' with hl | hl | hl
    · have := Cal.ahead_mono (show y + 1 ≤ y' by omega); omega
    · exact hl
    · have := Cal.ahead_mono (show y' + 1 ≤ y by omega); omega
  subst hy
  have hm : m = m' := by
    rcases Int.lt_trichotomy m m' with hl | hl | hl
    · have := cum_mono (y := y) h.m1 h'.m2 hl
      have := h.d2; have := h'.d1
      unfold Cal.days at he; omega
    · exact hl
    · have := cum_mono (y := y) h'.m1 h.m2 hl
      have := h'.d2; have := h.d1
      unfold Cal.days at he; omega
  subst hm
  exact ⟨rfl, rfl, by unfold Cal.days at he; omega⟩
theorem year_of (n : Int) : Cal.ahead (dY n) ≤ n ∧ n < Cal.ahead (dY n + 1) := by
  have := ahead_le (valid n)
  rwa [days_of] at this
end Yr
end Go.Proofs.YtkpjhgkmjcdobaaGreatDoor
