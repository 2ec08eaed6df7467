/-
  civil, continued: numbers of dates.
-/
import Derived.Test.YtopdjebnfhfpcaaGreatDoorCiv
namespace Go.Proofs.YtopdjebnfhfpcaaGreatDoor
open Go.RowKit NB
namespace Civ

set_option maxHeartbeats 800000 in
theorem number (y m d : Int) (h1 : -50000 ≤ y) (h2 : y ≤ 50000) (h3 : 1 ≤ m) (h4 : m ≤ 12) (h5 : 0 ≤ d) (h6 : d ≤ 100) (w : World) :
    Calls Tryz.prog 103 #[.agg #[.int .i64 y, .int .i64 m, .int .i64 d]] w fun e w' => e = .returned (.int .i64 (Cal.number y m d)) ∧ Below w.heap.size w w' := by
  by_cases hm : m < 3
  · have q1 : -200 ≤ (y - 1) / 400 := by omega
    have q2 : (y - 1) / 400 ≤ 200 := by omega
    have q3 : 0 ≤ (y - 1) % 400 := by omega
    have q4 : (y - 1) % 400 ≤ 399 := by omega
    have hf : Cal.number y m d = (y - 1) / 400 * 146097 + (y - 1) % 400 * 365 + (y - 1) % 400 / 4 - (y - 1) % 400 / 100 + ((153 * (m - 3 + 12) + 2) / 5 + d - 1) - 719468 := by
      unfold Cal.number Cal.y0 Cal.m0; rw [if_pos hm, if_pos hm, show m + 9 = m - 3 + 12 by omega]
    rw [hf]; clear hf
    go_enter Tryz.func103, Tryz.ntmps103
    go_wp2
    go_quiet (fail)
    go_wp2_with (go_at_call 109; refine (Num.Div _ _ (by omega) (by omega) (by omega) (by omega) _).mono ?_; rintro e w1 ⟨rfl, hb⟩; obtain ⟨hc, hfz⟩ := bcell hb)
    go_quiet ((go_at_call 113; exact quiet_left (march _ (by omega) (by omega) _)))
    go_wp2
    go_ret
    exact ⟨rfl, below_drewN ((below_drewN ((Below.refl _ _).alloc (Nat.le_refl _) _) _).trans (hb.mono (by simp))) _⟩
  · have q1 : -200 ≤ y / 400 := by omega
    have q2 : y / 400 ≤ 200 := by omega
    have q3 : 0 ≤ y % 400 := by omega
    have q4 : y % 400 ≤ 399 := by omega
    have hf : Cal.number y m d = y / 400 * 146097 + y % 400 * 365 + y % 400 / 4 - y % 400 / 100 + ((153 * (m - 3) + 2) / 5 + d - 1) - 719468 := by
      unfold Cal.number Cal.y0 Cal.m0; rw [if_neg hm, if_neg hm]
    rw [hf]; clear hf
    go_enter Tryz.func103, Tryz.ntmps103
    go_wp2
    go_quiet (fail)
    go_wp2_with (go_at_call 109; refine (Num.Div _ _ (by omega) (by omega) (by omega) (by omega) _).mono ?_; rintro e w1 ⟨rfl, hb⟩; obtain ⟨hc, hfz⟩ := bcell hb)
    go_quiet ((go_at_call 113; exact quiet_left (march _ (by omega) (by omega) _)))
    go_wp2
    go_ret
    exact ⟨rfl, below_drewN ((below_drewN ((Below.refl _ _).alloc (Nat.le_refl _) _) _).trans (hb.mono (by simp))) _⟩

theorem right_spec {y m d : Int} (h : right y m d = true) : -40000 ≤ y ∧ y ≤ 40000 ∧ 1 ≤ m ∧ m ≤ 12 ∧ 1 ≤ d ∧ d ≤ Cal.len y m := by
  unfold right at h
  simp only [Bool.and_eq_true, decide_eq_true_eq] at h
  obtain ⟨⟨⟨a, b⟩, c⟩, d⟩ := h
  refine ⟨a, b, ?_, ?_, c, d⟩
  · by_cases hm : m < 1
    · rw [Cal.len_out _ _ (.inl hm)] at d; omega
    · omega
  · by_cases hm : 12 < m
    · rw [Cal.len_out _ _ (.inr hm)] at d; omega
    · omega

set_option maxHeartbeats 800000 in
theorem Days (y m d : Int) (w : World) :
    Calls Tryz.prog 86 #[.agg #[.int .i64 y, .int .i64 m, .int .i64 d]] w fun e w' => e = .returned (if right y m d then .tuple #[.int .i64 (Cal.days y m d), .int .i64 0] else .tuple #[.int .i64 0, .int .i64 1]) ∧ Below w.heap.size w w' := by
  cases hr : right y m d
  · have Hr := Lib.hid hr; clear hr
    go_enter Tryz.func86, Tryz.ntmps86
    go_wp2_with (go_at_call 102; refine (Right _ _ _ _).mono ?_; rw [Hr.out]; rintro e w1 ⟨rfl, hb⟩)
    go_ret2
    exact ⟨rfl, ((Below.refl _ _).alloc (Nat.le_refl _) _).trans (hb.mono (by simp))⟩
  · obtain ⟨a1, a2, a3, a4, a5, a6⟩ := right_spec hr
    have hl := Cal.len_le y m
    have Hr := Lib.hid hr; clear hr
    have hd : d ≤ 31 := by omega
    clear a6 hl
    have e1 := Lib.hid (Cal.number_eq y m d a3 a4)
    go_enter Tryz.func86, Tryz.ntmps86
    go_wp2_with (first | (go_at_call 102; refine (Right _ _ _ _).mono ?_; rw [Hr.out]; rintro e w1 ⟨rfl, hb⟩; obtain ⟨hc, hfz⟩ := bcell hb) | (go_at_call 103; refine (number _ _ _ (by omega) (by omega) (by omega) (by omega) (by omega) (by omega) _).mono ?_; rintro e w2 ⟨rfl, hb2⟩))
    go_ret2
    exact ⟨by rw [← e1.out]; rfl, (((Below.refl _ _).alloc (Nat.le_refl _) _).trans (hb.mono (by simp))).trans (hb2.mono (by have := hb.size; simp at this; omega))⟩

theorem Weekday (n : Int) (h0 : -9000000000000000000 ≤ n) (h1 : n ≤ 9000000000000000000) (w : World) :
    Calls Tryz.prog 104 #[.int .i64 n] w fun e w' => e = .returned (.int .i64 ((n + 4) % 7)) ∧ Below w.heap.size w w' := by
  have q3 : 0 ≤ n % 7 := by omega
  have q4 : n % 7 ≤ 6 := by omega
  have hf : (n + 4) % 7 = (n % 7 + 4) % 7 := by omega
  rw [hf]; clear hf
  go_enter Tryz.func104, Tryz.ntmps104
  go_wp2_with (go_at_call 109; refine (Num.Div _ _ (by omega) (by omega) (by omega) (by omega) _).mono ?_; rintro e w1 ⟨rfl, hb⟩)
  go_ret
  exact ⟨rfl, hb⟩
end Civ
end Go.Proofs.YtopdjebnfhfpcaaGreatDoor
