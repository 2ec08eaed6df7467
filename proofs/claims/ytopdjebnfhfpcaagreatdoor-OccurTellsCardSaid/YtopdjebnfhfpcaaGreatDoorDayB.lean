/-
  dayrule, continued: windows and days.
-/
import Derived.Test.YtopdjebnfhfpcaaGreatDoorDay
namespace Go.Proofs.YtopdjebnfhfpcaaGreatDoor
open Go.RowKit NB
namespace Day
def winLow (k d m : Int) : Int := if k = 1 then Cal.len 1 m - 6 else if k = 3 then d - 6 else d
def winHigh (k d m : Int) : Int := if k = 1 then Cal.len 4 m else if k = 2 then d + 6 else d
theorem kinds {k wk d m : Int} (h : fits k wk d m = true) : k = 1 ∨ k = 0 ∨ k = 2 ∨ k = 3 := by
  obtain ⟨_, _, _, h⟩ := fits_spec h
  omega
theorem days31 {k wk d m : Int} (h : fits k wk d m = true) : 0 ≤ d ∧ d ≤ 31 ∧ 0 ≤ wk ∧ wk ≤ 6 := by
  obtain ⟨_, _, _, h⟩ := fits_spec h
  omega

/-- the day that is named -/
def dayI (k wk d y m : Int) : Int :=
  if k = 1 then (Cal.days y m 1 + Cal.len y m - 1) - backI (Cal.days y m 1 + Cal.len y m - 1) wk
  else if k = 2 then (Cal.days y m 1 + d - 1) + (6 - backI (Cal.days y m 1 + d - 1 + 6) wk)
  else if k = 3 then (Cal.days y m 1 + d - 1) - backI (Cal.days y m 1 + d - 1) wk
  else Cal.days y m 1 + d - 1
theorem backI_bd (n wk : Int) : 0 ≤ backI n wk ∧ backI n wk ≤ 6 := by unfold backI; omega
theorem right_first {y m : Int} (h1 : -40000 ≤ y) (h2 : y ≤ 40000) (h3 : 1 ≤ m) (h4 : m ≤ 12) : Civ.right y m 1 = true := by
  have := Cal.len_bd y m h3 h4
  unfold Civ.right
  simp only [Bool.and_eq_true, decide_eq_true_eq]
  omega
theorem first_bd {y m : Int} (h1 : -40000 ≤ y) (h2 : y ≤ 40000) (h3 : 1 ≤ m) (h4 : m ≤ 12) : -16000000 ≤ Cal.days y m 1 ∧ Cal.days y m 1 ≤ 16000000 := by
  have := Cal.ahead_bd y (by omega) (by omega)
  have := Cal.cum_bd y m h3 h4
  have := Cal.len_bd y m h3 h4
  have := Cal.lp_01 y
  unfold Cal.days; omega

theorem back' (n wk : Int) (h0 : -9000000000000000000 ≤ n) (h1 : n ≤ 9000000000000000000) (h2 : 0 ≤ wk) (h3 : wk ≤ 6) (w : World) :
    Calls Tryz.prog 87 #[.int .i64 n, .int .i64 wk] w fun e w' => ∃ r, e = .returned (.int .i64 r) ∧ r = backI n wk ∧ 0 ≤ r ∧ r ≤ 6 ∧ Below w.heap.size w w' :=
  (back n wk h0 h1 h2 h3 w).mono fun _ _ ⟨he, hb⟩ => ⟨_, he, rfl, (backI_bd n wk).1, (backI_bd n wk).2, hb⟩

set_option maxHeartbeats 1600000 in
theorem Days (k wk d y m : Int) (w : World) : Calls Tryz.prog 65 #[.agg #[.int .i64 k, .int .i64 wk, .int .i64 d], .int .i64 y, .int .i64 m] w fun e w' =>
    e = .returned (if fits k wk d m then (if -39999 ≤ y ∧ y ≤ 39999 then .tuple #[.int .i64 (dayI k wk d y m), .int .i64 0] else .tuple #[.int .i64 0, .int .i64 1]) else .tuple #[.int .i64 0, .int .i64 4]) ∧ Below w.heap.size w w' := by
  cases h1 : fits k wk d m
  case false =>
    have H1 := Lib.hid h1; clear h1
    go_enter Tryz.func65, Tryz.ntmps65
    go_wp2_with (go_at_call 62; refine (Fits _ _ _ _ _).mono ?_; rw [H1.out]; rintro e w1 ⟨rfl, hb⟩)
    go_ret2
    exact ⟨rfl, ((Below.refl _ _).alloc (Nat.le_refl _) _).trans (hb.mono (by simp))⟩
  case true =>
    by_cases hy : -39999 ≤ y ∧ y ≤ 39999
    case neg =>
      have H1 := Lib.hid h1; clear h1
      have hw : (decide (-39999 ≤ y) && decide (y ≤ 39999)) = false := by
        rw [Bool.eq_false_iff]; intro h; simp only [Bool.and_eq_true, decide_eq_true_eq] at h; exact hy h
      have HW := Lib.hid hw; clear hw
      rw [if_pos rfl, if_neg hy]
      clear hy
      go_enter Tryz.func65, Tryz.ntmps65
      go_wp2_with (first | (go_at_call 62; refine (Fits _ _ _ _ _).mono ?_; rw [H1.out]; rintro e w1 ⟨rfl, hb⟩; obtain ⟨hc, hfz⟩ := bcell hb) | (go_at_call 84; refine (within _ _ _ _).mono ?_; rw [HW.out]; rintro e w2 ⟨rfl, rfl⟩))
      go_ret2
      exact ⟨rfl, ((Below.refl _ _).alloc (Nat.le_refl _) _).trans (hb.mono (by simp))⟩
    case pos =>
      rw [if_pos rfl, if_pos hy]
      have hk := kinds h1
      obtain ⟨d0, d1, w0, w1⟩ := days31 h1
      obtain ⟨m0, m1, _, _⟩ := fits_spec h1
      obtain ⟨y0, y1⟩ := hy
      have H1 := Lib.hid h1; clear h1
      have hw : (decide (-39999 ≤ y) && decide (y ≤ 39999)) = true := by
        simp only [Bool.and_eq_true, decide_eq_true_eq]; exact ⟨y0, y1⟩
      have HW := Lib.hid hw; clear hw
      have HR := Lib.hid (right_first (y := y) (m := m) (by omega) (by omega) m0 m1)
      have fb := first_bd (y := y) (m := m) (by omega) (by omega) m0 m1
      have l1 := Cal.len_le y m
      unfold dayI
      generalize hF : Cal.days y m 1 = F at *
      have HF := Lib.hid hF; clear hF
      rcases hk with rfl | rfl | rfl | rfl
      all_goals
        simp only [Int.reduceEq, if_true, if_false, reduceIte]
        go_enter Tryz.func65, Tryz.ntmps65
        go_wp2_with (first | (go_at_call 62; refine (Fits _ _ _ _ _).mono ?_; rw [H1.out]; rintro e w1 ⟨rfl, hb⟩; obtain ⟨hc, hfz⟩ := bcell hb; have hz : w.heap.size < w1.heap.size := by (have := hb.size; simp at this; omega)) | (go_at_call 84; refine (within _ _ _ _).mono ?_; rw [HW.out]; rintro e w2 ⟨rfl, rfl⟩) | (go_at_call 86; refine (Civ.Days _ _ _ _).mono ?_; rw [HR.out, if_pos rfl, HF.out]; rintro e w3 ⟨rfl, hb3⟩; obtain ⟨hc3, hfz3⟩ := bcell hb3; have hz3 := hb3.size) | (go_at_call 85; refine (Civ.Len _ _ _).mono ?_; rintro e w5 ⟨rfl, rfl⟩) | (go_at_call 87; refine (back' _ _ (by omega) (by omega) (by omega) (by omega) _).mono ?_; rintro e w4 ⟨r, rfl, hr, r0, r1, hb4⟩; have HR4 := Lib.hid hr; clear hr))
        go_ret2
        first
          | (refine ⟨ret_ii ?_ rfl, ((((Below.refl _ _).alloc (Nat.le_refl _) _).trans (hb.mono (by simp))).trans (hb3.mono (by omega))).trans (hb4.mono (by omega))⟩
             first | (rw [HR4.out]; done) | (rw [HR4.out]; omega) | (rw [HR4.out, show F + d - 1 + 6 = F + d - 1 + 7 - 1 by omega]))
          | exact ⟨ret_ii (by omega) rfl, (((Below.refl _ _).alloc (Nat.le_refl _) _).trans (hb.mono (by simp))).trans (hb3.mono (by omega))⟩
end Day
end Go.Proofs.YtopdjebnfhfpcaaGreatDoor
