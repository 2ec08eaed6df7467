import Derived.Test.YtcfmchpoclkpgaaGreatDoorG3
namespace Go.Proofs.YtcfmchpoclkpgaaGreatDoor
open Go.RowKit NB
namespace Civ

set_option maxHeartbeats 800000 in
theorem number (y m d : Int) (h1 : -50000 ≤ y) (h2 : y ≤ 50000) (h3 : 1 ≤ m) (h4 : m ≤ 12) (h5 : 0 ≤ d) (h6 : d ≤ 100) (w : World) :
    Calls Tryz.prog 253 #[.agg #[.int .i64 y, .int .i64 m, .int .i64 d]] w fun e w' => e = .returned (.int .i64 (Cal.number y m d)) ∧ Below w.heap.size w w' := by
  by_cases hm : m < 3
  · have q1 : -200 ≤ (y - 1) / 400 := by omega
    have q2 : (y - 1) / 400 ≤ 200 := by omega
    have q3 : 0 ≤ (y - 1) % 400 := by omega
    have q4 : (y - 1) % 400 ≤ 399 := by omega
    have hf : Cal.number y m d = (y - 1) / 400 * 146097 + (y - 1) % 400 * 365 + (y - 1) % 400 / 4 - (y - 1) % 400 / 100 + ((153 * (m - 3 + 12) + 2) / 5 + d - 1) - 719468 := by
      unfold Cal.number Cal.y0 Cal.m0;rw [if_pos hm, if_pos hm, show m + 9 = m - 3 + 12 by omega]
    rw [hf];clear hf
    go_enter Tryz.func253, Tryz.ntmps253
    go_wp2
    go_quiet (fail)
    go_wp2_with (go_at_call 286;refine (Num.Div _ _ (by omega) (by omega) (by omega) (by omega) _).mono ?_;rintro e w1 ⟨rfl, hb⟩;obtain ⟨hc, hfz⟩ := bcell hb)
    go_quiet ((go_at_call 287;exact quiet_left (march _ (by omega) (by omega) _)))
    go_wp2
    go_ret
    exact ⟨rfl, below_drewN ((below_drewN ((Below.refl _ _).alloc (Nat.le_refl _) _) _).trans (hb.mono (by simp))) _⟩
  · have q1 : -200 ≤ y / 400 := by omega
    have q2 : y / 400 ≤ 200 := by omega
    have q3 : 0 ≤ y % 400 := by omega
    have q4 : y % 400 ≤ 399 := by omega
    have hf : Cal.number y m d = y / 400 * 146097 + y % 400 * 365 + y % 400 / 4 - y % 400 / 100 + ((153 * (m - 3) + 2) / 5 + d - 1) - 719468 := by
      unfold Cal.number Cal.y0 Cal.m0;rw [if_neg hm, if_neg hm]
    rw [hf];clear hf
    go_enter Tryz.func253, Tryz.ntmps253
    go_wp2
    go_quiet (fail)
    go_wp2_with (go_at_call 286;refine (Num.Div _ _ (by omega) (by omega) (by omega) (by omega) _).mono ?_;rintro e w1 ⟨rfl, hb⟩;obtain ⟨hc, hfz⟩ := bcell hb)
    go_quiet ((go_at_call 287;exact quiet_left (march _ (by omega) (by omega) _)))
    go_wp2
    go_ret
    exact ⟨rfl, below_drewN ((below_drewN ((Below.refl _ _).alloc (Nat.le_refl _) _) _).trans (hb.mono (by simp))) _⟩

theorem right_spec {y m d : Int} (h : right y m d = true) : -40000 ≤ y ∧ y ≤ 40000 ∧ 1 ≤ m ∧ m ≤ 12 ∧ 1 ≤ d ∧ d ≤ Cal.len y m := by
  unfold right at h
  simp only [Bool.and_eq_true, decide_eq_true_eq] at h
  obtain ⟨⟨⟨a, b⟩, c⟩, d⟩ := h
  refine ⟨a, b, ?_, ?_, c, d⟩
  · by_cases hm : m < 1
    · rw [Cal.len_out _ _ (.inl hm)] at d;omega
    · omega
  · by_cases hm : 12 < m
    · rw [Cal.len_out _ _ (.inr hm)] at d;omega
    · omega

set_option maxHeartbeats 800000 in
theorem Days (y m d : Int) (w : World) :
    Calls Tryz.prog 233 #[.agg #[.int .i64 y, .int .i64 m, .int .i64 d]] w fun e w' => e = .returned (if right y m d then .tuple #[.int .i64 (Cal.days y m d), .int .i64 0] else .tuple #[.int .i64 0, .int .i64 1]) ∧ Below w.heap.size w w' := by
  cases hr : right y m d
  · have Hr := Lib.hid hr;clear hr
    go_enter Tryz.func233, Tryz.ntmps233
    go_wp2_with (go_at_call 252;refine (Right _ _ _ _).mono ?_;rw [Hr.out];rintro e w1 ⟨rfl, hb⟩)
    go_ret2
    exact ⟨rfl, ((Below.refl _ _).alloc (Nat.le_refl _) _).trans (hb.mono (by simp))⟩
  · obtain ⟨a1, a2, a3, a4, a5, a6⟩ := right_spec hr
    have hl := Cal.len_le y m
    have Hr := Lib.hid hr;clear hr
    have hd : d ≤ 31 := by omega
    clear a6 hl
    have e1 := Lib.hid (Cal.number_eq y m d a3 a4)
    go_enter Tryz.func233, Tryz.ntmps233
    go_wp2_with (first|(go_at_call 252;refine (Right _ _ _ _).mono ?_;rw [Hr.out];rintro e w1 ⟨rfl, hb⟩;obtain ⟨hc, hfz⟩ := bcell hb)|(go_at_call 253;refine (number _ _ _ (by omega) (by omega) (by omega) (by omega) (by omega) (by omega) _).mono ?_;rintro e w2 ⟨rfl, hb2⟩))
    go_ret2
    exact ⟨by rw [← e1.out];rfl, (((Below.refl _ _).alloc (Nat.le_refl _) _).trans (hb.mono (by simp))).trans (hb2.mono (by have := hb.size;simp at this;omega))⟩

theorem Weekday (n : Int) (h0 : -9000000000000000000 ≤ n) (h1 : n ≤ 9000000000000000000) (w : World) :
    Calls Tryz.prog 278 #[.int .i64 n] w fun e w' => e = .returned (.int .i64 ((n + 4) % 7)) ∧ Below w.heap.size w w' := by
  have q3 : 0 ≤ n % 7 := by omega
  have q4 : n % 7 ≤ 6 := by omega
  have hf : (n + 4) % 7 = (n % 7 + 4) % 7 := by omega
  rw [hf];clear hf
  go_enter Tryz.func278, Tryz.ntmps278
  go_wp2_with (go_at_call 286;refine (Num.Div _ _ (by omega) (by omega) (by omega) (by omega) _).mono ?_;rintro e w1 ⟨rfl, hb⟩)
  go_ret
  exact ⟨rfl, hb⟩
end Civ
end Go.Proofs.YtcfmchpoclkpgaaGreatDoor
namespace Go.Proofs.YtcfmchpoclkpgaaGreatDoor
open Go.RowKit NB
namespace Day
def onRight (k wk d : Int) : Bool := if k = 1 then decide (0 ≤ wk ∧ wk ≤ 6 ∧ d = 0) else decide (0 ≤ k ∧ k ≤ 3 ∧ 0 ≤ wk ∧ wk ≤ (if k = 0 then 0 else 6) ∧ 1 ≤ d ∧ d ≤ 31)
theorem onRight_iff (k wk d : Int) : onRight k wk d = true ↔ (k = 1 ∧ 0 ≤ wk ∧ wk ≤ 6 ∧ d = 0) ∨ (k = 0 ∧ wk = 0 ∧ 1 ≤ d ∧ d ≤ 31) ∨ ((k = 2 ∨ k = 3) ∧ 0 ≤ wk ∧ wk ≤ 6 ∧ 1 ≤ d ∧ d ≤ 31) := by
  unfold onRight
  by_cases h1 : k = 1
  · simp [h1]
  · by_cases h0 : k = 0
    · simp [h0];omega
    · simp [h1, h0];omega
theorem within (n lo hi : Int) (w : World) : Calls Tryz.prog 192 #[.int .i64 n, .int .i64 lo, .int .i64 hi] w fun e w' => e = .returned (.bool (decide (lo ≤ n) && decide (n ≤ hi))) ∧ w = w' := by
  go_enter Tryz.func192, Tryz.ntmps192
  go_wp2
  all_goals
    go_ret
    refine ⟨ret_bool ?_, rfl⟩
    simp [*]
    try omega
set_option maxHeartbeats 800000 in
theorem Right (k wk d : Int) (w : World) : Calls Tryz.prog 191 #[.agg #[.int .i64 k, .int .i64 wk, .int .i64 d]] w fun e w' => e = .returned (.bool (onRight k wk d)) ∧ Below w.heap.size w w' := by
  go_enter Tryz.func191, Tryz.ntmps191
  go_wp2
  all_goals
    go_ret
    refine ⟨ret_bool ?_, (Below.refl _ _).alloc (Nat.le_refl _) _⟩
    rw [Bool.eq_iff_iff, onRight_iff]
    simp only [beq_iff_eq, beq_eq_false_iff_ne, ne_eq, decide_eq_true_eq, Bool.false_eq_true, false_iff] at *
    omega

def fits (k wk d m : Int) : Bool := onRight k wk d && (decide (1 ≤ m) && decide (m ≤ 12)) && decide (d ≤ Cal.len 1 m)
theorem fits_spec {k wk d m : Int} (h : fits k wk d m = true) : 1 ≤ m ∧ m ≤ 12 ∧ d ≤ Cal.len 1 m ∧ ((k = 1 ∧ 0 ≤ wk ∧ wk ≤ 6 ∧ d = 0) ∨ (k = 0 ∧ wk = 0 ∧ 1 ≤ d ∧ d ≤ 31) ∨ ((k = 2 ∨ k = 3) ∧ 0 ≤ wk ∧ wk ≤ 6 ∧ 1 ≤ d ∧ d ≤ 31)) := by
  unfold fits at h
  simp only [Bool.and_eq_true, decide_eq_true_eq] at h
  exact ⟨h.1.2.1, h.1.2.2, h.2, (onRight_iff _ _ _).1 h.1.1⟩
set_option maxHeartbeats 800000 in
theorem Fits (k wk d m : Int) (w : World) : Calls Tryz.prog 129 #[.agg #[.int .i64 k, .int .i64 wk, .int .i64 d], .int .i64 m] w fun e w' => e = .returned (.bool (fits k wk d m)) ∧ Below w.heap.size w w' := by
  unfold fits
  cases h1 : onRight k wk d
  case false =>
    have H1 := Lib.hid h1;clear h1
    go_enter Tryz.func129, Tryz.ntmps129
    go_wp2
    refine region_later (by kernel_rfl) (by kernel_rfl) ?_
    repeat (go_big_quiet_step ((go_at_call 191;rename_i xL;apply calls_later xL (Nat.le_refl _);refine (Right _ _ _ _).mono ?_;rw [H1.out];exact fun _ _ h => h)))
    refine wpQuiet_nil ?_
    rintro _ ⟨⟨u, hu⟩, rfl⟩
    go_wp2
    go_ret
    exact ⟨rfl, ((Below.refl _ _).alloc (Nat.le_refl _) _).trans (hu.mono (by simp))⟩
  case true =>
    have H1 := Lib.hid h1;clear h1
    cases h2 : (decide (1 ≤ m) && decide (m ≤ 12))
    case false =>
      have H2 := Lib.hid h2;clear h2
      go_enter Tryz.func129, Tryz.ntmps129
      go_wp2
      refine region_later (by kernel_rfl) (by kernel_rfl) ?_
      repeat (go_big_quiet_step (first|(go_at_call 191;rename_i xL;apply calls_later xL (Nat.le_refl _);refine (Right _ _ _ _).mono ?_;rw [H1.out];exact fun _ _ h => h)|(go_at_call 192;rename_i xL;apply calls_later xL (Nat.le_refl _);apply below_of_same;refine (within _ _ _ _).mono ?_;rw [H2.out];exact fun _ _ h => h)))
      refine wpQuiet_nil ?_
      rintro _ ⟨⟨u, hu⟩, rfl⟩
      go_wp2
      go_ret
      exact ⟨rfl, ((Below.refl _ _).alloc (Nat.le_refl _) _).trans (hu.mono (by simp))⟩
    case true =>
      have H2 := Lib.hid h2;clear h2
      go_enter Tryz.func129, Tryz.ntmps129
      go_wp2
      refine region_later (by kernel_rfl) (by kernel_rfl) ?_
      repeat (go_big_quiet_step (first|(go_at_call 191;rename_i xL;apply calls_later xL (Nat.le_refl _);refine (Right _ _ _ _).mono ?_;rw [H1.out];exact fun _ _ h => h)|(go_at_call 192;rename_i xL;apply calls_later xL (Nat.le_refl _);apply below_of_same;refine (within _ _ _ _).mono ?_;rw [H2.out];exact fun _ _ h => h)|(go_at_call 193;rename_i xL;exact calls_later xL (Nat.le_refl _) (below_of_same (Civ.Len _ _ _)))))
      refine wpQuiet_nil ?_
      rintro _ ⟨⟨u, hu⟩, rfl⟩
      go_wp2
      go_ret
      exact ⟨rfl, ((Below.refl _ _).alloc (Nat.le_refl _) _).trans (hu.mono (by simp))⟩

def backI (n wk : Int) : Int := ((n + 4) % 7 - wk + 7) % 7
theorem back (n wk : Int) (h0 : -9000000000000000000 ≤ n) (h1 : n ≤ 9000000000000000000) (h2 : 0 ≤ wk) (h3 : wk ≤ 6) (w : World) :
    Calls Tryz.prog 234 #[.int .i64 n, .int .i64 wk] w fun e w' => e = .returned (.int .i64 (backI n wk)) ∧ Below w.heap.size w w' := by
  unfold backI
  have q3 : 0 ≤ (n + 4) % 7 := by omega
  have q4 : (n + 4) % 7 ≤ 6 := by omega
  go_enter Tryz.func234, Tryz.ntmps234
  go_wp2_with (go_at_call 278;refine (Civ.Weekday _ (by omega) (by omega) _).mono ?_;rintro e w1 ⟨rfl, hb⟩)
  go_ret
  exact ⟨rfl, hb⟩
end Day
end Go.Proofs.YtcfmchpoclkpgaaGreatDoor
