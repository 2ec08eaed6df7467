/-
  dayrule: what its functions give, as the program runs them.
-/
import Derived.Test.YtopdjebnfhfpcaaGreatDoorCivB
namespace Go.Proofs.YtopdjebnfhfpcaaGreatDoor
open Go.RowKit NB
namespace Day
/-- whether a name of a day may be -/
def onRight (k wk d : Int) : Bool := if k = 1 then decide (0 ≤ wk ∧ wk ≤ 6 ∧ d = 0) else decide (0 ≤ k ∧ k ≤ 3 ∧ 0 ≤ wk ∧ wk ≤ (if k = 0 then 0 else 6) ∧ 1 ≤ d ∧ d ≤ 31)
theorem onRight_iff (k wk d : Int) : onRight k wk d = true ↔ (k = 1 ∧ 0 ≤ wk ∧ wk ≤ 6 ∧ d = 0) ∨ (k = 0 ∧ wk = 0 ∧ 1 ≤ d ∧ d ≤ 31) ∨ ((k = 2 ∨ k = 3) ∧ 0 ≤ wk ∧ wk ≤ 6 ∧ 1 ≤ d ∧ d ≤ 31) := by
  unfold onRight
  by_cases h1 : k = 1
  · simp [h1]
  · by_cases h0 : k = 0
    · simp [h0]; omega
    · simp [h1, h0]; omega
theorem within (n lo hi : Int) (w : World) : Calls Tryz.prog 84 #[.int .i64 n, .int .i64 lo, .int .i64 hi] w fun e w' => e = .returned (.bool (decide (lo ≤ n) && decide (n ≤ hi))) ∧ w = w' := by
  go_enter Tryz.func84, Tryz.ntmps84
  go_wp2
  all_goals
    go_ret
    refine ⟨ret_bool ?_, rfl⟩
    simp [*]
    try omega
set_option maxHeartbeats 800000 in
theorem Right (k wk d : Int) (w : World) : Calls Tryz.prog 83 #[.agg #[.int .i64 k, .int .i64 wk, .int .i64 d]] w fun e w' => e = .returned (.bool (onRight k wk d)) ∧ Below w.heap.size w w' := by
  go_enter Tryz.func83, Tryz.ntmps83
  go_wp2
  all_goals
    go_ret
    refine ⟨ret_bool ?_, (Below.refl _ _).alloc (Nat.le_refl _) _⟩
    rw [Bool.eq_iff_iff, onRight_iff]
    simp only [beq_iff_eq, beq_eq_false_iff_ne, ne_eq, decide_eq_true_eq, Bool.false_eq_true, false_iff] at *
    omega

/-- whether it fits a month -/
def fits (k wk d m : Int) : Bool := onRight k wk d && (decide (1 ≤ m) && decide (m ≤ 12)) && decide (d ≤ Cal.len 1 m)
theorem fits_spec {k wk d m : Int} (h : fits k wk d m = true) : 1 ≤ m ∧ m ≤ 12 ∧ d ≤ Cal.len 1 m ∧ ((k = 1 ∧ 0 ≤ wk ∧ wk ≤ 6 ∧ d = 0) ∨ (k = 0 ∧ wk = 0 ∧ 1 ≤ d ∧ d ≤ 31) ∨ ((k = 2 ∨ k = 3) ∧ 0 ≤ wk ∧ wk ≤ 6 ∧ 1 ≤ d ∧ d ≤ 31)) := by
  unfold fits at h
  simp only [Bool.and_eq_true, decide_eq_true_eq] at h
  exact ⟨h.1.2.1, h.1.2.2, h.2, (onRight_iff _ _ _).1 h.1.1⟩
set_option maxHeartbeats 800000 in
theorem Fits (k wk d m : Int) (w : World) : Calls Tryz.prog 62 #[.agg #[.int .i64 k, .int .i64 wk, .int .i64 d], .int .i64 m] w fun e w' => e = .returned (.bool (fits k wk d m)) ∧ Below w.heap.size w w' := by
  unfold fits
  cases h1 : onRight k wk d
  case false =>
    have H1 := Lib.hid h1; clear h1
    go_enter Tryz.func62, Tryz.ntmps62
    go_wp2
    refine region_later (by kernel_rfl) (by kernel_rfl) ?_
    repeat (go_big_quiet_step ((go_at_call 83; rename_i xL; apply calls_later xL (Nat.le_refl _); refine (Right _ _ _ _).mono ?_; rw [H1.out]; exact fun _ _ h => h)))
    refine wpQuiet_nil ?_
    rintro _ ⟨⟨u, hu⟩, rfl⟩
    go_wp2
    go_ret
    exact ⟨rfl, ((Below.refl _ _).alloc (Nat.le_refl _) _).trans (hu.mono (by simp))⟩
  case true =>
    have H1 := Lib.hid h1; clear h1
    cases h2 : (decide (1 ≤ m) && decide (m ≤ 12))
    case false =>
      have H2 := Lib.hid h2; clear h2
      go_enter Tryz.func62, Tryz.ntmps62
      go_wp2
      refine region_later (by kernel_rfl) (by kernel_rfl) ?_
      repeat (go_big_quiet_step (first | (go_at_call 83; rename_i xL; apply calls_later xL (Nat.le_refl _); refine (Right _ _ _ _).mono ?_; rw [H1.out]; exact fun _ _ h => h) | (go_at_call 84; rename_i xL; apply calls_later xL (Nat.le_refl _); apply below_of_same; refine (within _ _ _ _).mono ?_; rw [H2.out]; exact fun _ _ h => h)))
      refine wpQuiet_nil ?_
      rintro _ ⟨⟨u, hu⟩, rfl⟩
      go_wp2
      go_ret
      exact ⟨rfl, ((Below.refl _ _).alloc (Nat.le_refl _) _).trans (hu.mono (by simp))⟩
    case true =>
      have H2 := Lib.hid h2; clear h2
      go_enter Tryz.func62, Tryz.ntmps62
      go_wp2
      refine region_later (by kernel_rfl) (by kernel_rfl) ?_
      repeat (go_big_quiet_step (first | (go_at_call 83; rename_i xL; apply calls_later xL (Nat.le_refl _); refine (Right _ _ _ _).mono ?_; rw [H1.out]; exact fun _ _ h => h) | (go_at_call 84; rename_i xL; apply calls_later xL (Nat.le_refl _); apply below_of_same; refine (within _ _ _ _).mono ?_; rw [H2.out]; exact fun _ _ h => h) | (go_at_call 85; rename_i xL; exact calls_later xL (Nat.le_refl _) (below_of_same (Civ.Len _ _ _)))))
      refine wpQuiet_nil ?_
      rintro _ ⟨⟨u, hu⟩, rfl⟩
      go_wp2
      go_ret
      exact ⟨rfl, ((Below.refl _ _).alloc (Nat.le_refl _) _).trans (hu.mono (by simp))⟩

/-- how many days a day is behind the last one of a weekday -/
def backI (n wk : Int) : Int := ((n + 4) % 7 - wk + 7) % 7
theorem back (n wk : Int) (h0 : -9000000000000000000 ≤ n) (h1 : n ≤ 9000000000000000000) (h2 : 0 ≤ wk) (h3 : wk ≤ 6) (w : World) :
    Calls Tryz.prog 87 #[.int .i64 n, .int .i64 wk] w fun e w' => e = .returned (.int .i64 (backI n wk)) ∧ Below w.heap.size w w' := by
  unfold backI
  have q3 : 0 ≤ (n + 4) % 7 := by omega
  have q4 : (n + 4) % 7 ≤ 6 := by omega
  go_enter Tryz.func87, Tryz.ntmps87
  go_wp2_with (go_at_call 104; refine (Civ.Weekday _ (by omega) (by omega) _).mono ?_; rintro e w1 ⟨rfl, hb⟩)
  go_ret
  exact ⟨rfl, hb⟩
end Day
end Go.Proofs.YtopdjebnfhfpcaaGreatDoor
