/-
  noontideref05: what its functions give, as the program runs them.
-/
import Derived.Test.YtopdjebnfhfpcaaDoorRCivB
import Derived.Test.YtopdjebnfhfpcaaDoorDayB
namespace Go.Proofs.YtopdjebnfhfpcaaDoor
open Go.RowKit NB
namespace RDay
set_option maxHeartbeats 1600000 in
theorem Right (k wk d : Int) (w : World) : Calls Tryd.prog 92 #[.agg #[.int .i64 k, .int .i64 wk, .int .i64 d]] w fun e w' => e = .returned (.bool (Day.onRight k wk d)) ∧ Below w.heap.size w w' := by
  go_enter Tryd.func92, Tryd.ntmps92
  go_wp2
  all_goals
    go_ret
    refine ⟨ret_bool ?_, by repeat (first | (with_reducible exact Below.refl _ _) | (with_reducible assumption) | (with_reducible refine ba ?_) | (with_reducible refine bd ?_) | (with_reducible refine bdn ?_ _) | (with_reducible refine bset ?_ (by first | exact Nat.le_refl _ | omega | (simp; done) | (simp; omega))) | (with_reducible refine bt ?_ (by with_reducible assumption)))⟩
    rw [Bool.eq_iff_iff, Day.onRight_iff]
    simp only [beq_iff_eq, beq_eq_false_iff_ne, ne_eq, decide_eq_true_eq, Bool.false_eq_true, false_iff, true_iff] at *
    omega
theorem len_2001 (m : Int) : Cal.len 2001 m = Cal.len 1 m := by
  unfold Cal.len
  rw [show Cal.lp 2001 = Cal.lp 1 by decide]
theorem len_2000 (m : Int) : Cal.len 2000 m = Cal.len 4 m := by
  unfold Cal.len
  rw [show Cal.lp 2000 = Cal.lp 4 by decide]
set_option maxHeartbeats 1600000 in
theorem Fits (k wk d m : Int) (w : World) : Calls Tryd.prog 71 #[.agg #[.int .i64 k, .int .i64 wk, .int .i64 d], .int .i64 m] w fun e w' => e = .returned (.bool (Day.fits k wk d m)) ∧ Below w.heap.size w w' := by
  have cr := Right k wk d
  have cl := RCiv.Len 2001 m
  rw [len_2001] at cl
  unfold Day.fits
  have Cl := Lib.hid cl
  clear cl
  cases h1 : Day.onRight k wk d
  · rw [h1] at cr
    have Cr := Lib.hid cr
    clear cr h1
    simp only [Bool.false_and]
    go_enter Tryd.func71, Tryd.ntmps71
    go_wp2
    (refine region_later (by kernel_rfl) (by kernel_rfl) ?_; (repeat (go_big_quiet_step (first | (go_at_call 92; rename_i xL; apply calls_later xL (Nat.le_refl _); exact (Cr.out _))))); refine wpQuiet_nil ?_; rintro _ ⟨⟨u1, hu1⟩, rfl⟩)
    go_wp2
    go_ret
    exact ⟨rfl, by repeat (first | (with_reducible exact Below.refl _ _) | (with_reducible assumption) | (with_reducible refine ba ?_) | (with_reducible refine bd ?_) | (with_reducible refine bdn ?_ _) | (with_reducible refine bset ?_ (by first | exact Nat.le_refl _ | omega | (simp; done) | (simp; omega))) | (with_reducible refine bt ?_ (by with_reducible assumption)))⟩
  · rw [h1] at cr
    have Cr := Lib.hid cr
    clear cr h1
    by_cases hm1 : 1 ≤ m
    · by_cases hm2 : m ≤ 12
      · have e : (true && (decide (1 ≤ m) && decide (m ≤ 12)) && decide (d ≤ Cal.len 1 m)) = decide (d ≤ Cal.len 1 m) := by simp [hm1, hm2]
        rw [e]
        clear e
        generalize Cal.len 1 m = ln at *
        go_enter Tryd.func71, Tryd.ntmps71
        go_wp2
        (refine region_later (by kernel_rfl) (by kernel_rfl) ?_; (repeat (go_big_quiet_step (first | (go_at_call 92; rename_i xL; apply calls_later xL (Nat.le_refl _); exact (Cr.out _)) | (go_at_call 35; rename_i xL; apply calls_later xL (Nat.le_refl _); exact (Cl.out _))))); refine wpQuiet_nil ?_; rintro _ ⟨⟨u1, hu1⟩, rfl⟩)
        go_wp2
        go_ret
        exact ⟨rfl, by repeat (first | (with_reducible exact Below.refl _ _) | (with_reducible assumption) | (with_reducible refine ba ?_) | (with_reducible refine bd ?_) | (with_reducible refine bdn ?_ _) | (with_reducible refine bset ?_ (by first | exact Nat.le_refl _ | omega | (simp; done) | (simp; omega))) | (with_reducible refine bt ?_ (by with_reducible assumption)))⟩
      · have d2 : decide (m ≤ 12) = false := by simpa using hm2
        rw [d2]
        simp only [Bool.and_false, Bool.false_and]
        go_enter Tryd.func71, Tryd.ntmps71
        go_wp2
        (refine region_later (by kernel_rfl) (by kernel_rfl) ?_; (repeat (go_big_quiet_step (first | (go_at_call 92; rename_i xL; apply calls_later xL (Nat.le_refl _); exact (Cr.out _))))); refine wpQuiet_nil ?_; rintro _ ⟨⟨u1, hu1⟩, rfl⟩)
        go_wp2
        go_ret
        exact ⟨rfl, by repeat (first | (with_reducible exact Below.refl _ _) | (with_reducible assumption) | (with_reducible refine ba ?_) | (with_reducible refine bd ?_) | (with_reducible refine bdn ?_ _) | (with_reducible refine bset ?_ (by first | exact Nat.le_refl _ | omega | (simp; done) | (simp; omega))) | (with_reducible refine bt ?_ (by with_reducible assumption)))⟩
    · have d2 : decide (1 ≤ m) = false := by simpa using hm1
      rw [d2]
      simp only [Bool.and_false, Bool.false_and]
      go_enter Tryd.func71, Tryd.ntmps71
      go_wp2
      (refine region_later (by kernel_rfl) (by kernel_rfl) ?_; (repeat (go_big_quiet_step (first | (go_at_call 92; rename_i xL; apply calls_later xL (Nat.le_refl _); exact (Cr.out _))))); refine wpQuiet_nil ?_; rintro _ ⟨⟨u1, hu1⟩, rfl⟩)
      go_wp2
      go_ret
      exact ⟨rfl, by repeat (first | (with_reducible exact Below.refl _ _) | (with_reducible assumption) | (with_reducible refine ba ?_) | (with_reducible refine bd ?_) | (with_reducible refine bdn ?_ _) | (with_reducible refine bset ?_ (by first | exact Nat.le_refl _ | omega | (simp; done) | (simp; omega))) | (with_reducible refine bt ?_ (by with_reducible assumption)))⟩
set_option maxHeartbeats 1600000 in
theorem Window (k wk d m : Int) (w : World) : Calls Tryd.prog 36 #[.agg #[.int .i64 k, .int .i64 wk, .int .i64 d], .int .i64 m] w fun e w' =>
    e = .returned (if Day.fits k wk d m then .tuple #[.int .i64 (Day.winLow k d m), .int .i64 (Day.winHigh k d m), .int .i64 0] else .tuple #[.int .i64 0, .int .i64 0, .int .i64 4]) ∧ Below w.heap.size w w' := by
  have cf := Fits k wk d m
  have cl1 := RCiv.Len 2001 m
  have cl0 := RCiv.Len 2000 m
  rw [len_2001] at cl1
  rw [len_2000] at cl0
  have lb1 := Cal.len_le 1 m
  have lb0 := Cal.len_le 4 m
  have Cl1 := Lib.hid cl1
  have Cl0 := Lib.hid cl0
  clear cl1 cl0
  cases h : Day.fits k wk d m
  · rw [h] at cf
    have Cf := Lib.hid cf
    clear cf h
    rw [if_neg (by decide)]
    go_enter Tryd.func36, Tryd.ntmps36
    go_wp2_with (go_at_call 71; (with_reducible refine (Cf.out _).mono ?_); rintro e w1 ⟨rfl, hb1⟩; obtain ⟨hc1, hf1⟩ := bcell hb1; have hc1_0 := fun o => hc1 (w.heap.size) o (by first | assumption | omega | (simp; done) | (simp; omega)); have hf1_0 := fun o => hf1 (w.heap.size) o (by first | assumption | omega | (simp; done) | (simp; omega)); clear hc1 hf1; have hz1_0 : w.heap.size < w1.heap.size := (by first | exact sz1 hb1 | exact sz2 hb1 | exact sz3 hb1 | (have := hb1.size; (try simp only [World.size_alloc, World.size_drew] at this); omega)))
    go_ret3
    exact ⟨rfl, by repeat (first | (with_reducible exact Below.refl _ _) | (with_reducible assumption) | (with_reducible refine ba ?_) | (with_reducible refine bd ?_) | (with_reducible refine bdn ?_ _) | (with_reducible refine bset ?_ (by first | exact Nat.le_refl _ | omega | (simp; done) | (simp; omega))) | (with_reducible refine bt ?_ (by with_reducible assumption)))⟩
  · rw [h] at cf
    have hk := Day.kinds h
    obtain ⟨d0, d1, _, _⟩ := Day.days31 h
    have Cf := Lib.hid cf
    clear cf h
    rw [if_pos rfl]
    unfold Day.winLow Day.winHigh
    generalize Cal.len 1 m = l1 at *
    generalize Cal.len 4 m = l4 at *
    rcases hk with rfl | rfl | rfl | rfl
    all_goals
      simp only [Int.reduceEq, if_true, if_false, reduceIte]
      go_enter Tryd.func36, Tryd.ntmps36
      go_wp2_with (first | (go_at_call 71; (with_reducible refine (Cf.out _).mono ?_); rintro e w1 ⟨rfl, hb1⟩; obtain ⟨hc1, hf1⟩ := bcell hb1; have hc1_0 := fun o => hc1 (w.heap.size) o (by first | assumption | omega | (simp; done) | (simp; omega)); have hf1_0 := fun o => hf1 (w.heap.size) o (by first | assumption | omega | (simp; done) | (simp; omega)); clear hc1 hf1; have hz1_0 : w.heap.size < w1.heap.size := (by first | exact sz1 hb1 | exact sz2 hb1 | exact sz3 hb1 | (have := hb1.size; (try simp only [World.size_alloc, World.size_drew] at this); omega))) | (go_at_call 35; (with_reducible refine (Cl1.out _).mono ?_); rintro e w2 ⟨rfl, hb2⟩; obtain ⟨hc2, hf2⟩ := bcell hb2; have hc2_0 := fun o => hc2 (w.heap.size) o (by first | assumption | omega | (simp; done) | (simp; omega)); have hf2_0 := fun o => hf2 (w.heap.size) o (by first | assumption | omega | (simp; done) | (simp; omega)); clear hc2 hf2; have hz2_0 : w.heap.size < w2.heap.size := (by first | exact sz1 hb2 | exact sz2 hb2 | exact sz3 hb2 | (have := hb2.size; (try simp only [World.size_alloc, World.size_drew] at this); omega))) | (go_at_call 35; (with_reducible refine (Cl0.out _).mono ?_); rintro e w3 ⟨rfl, hb3⟩; obtain ⟨hc3, hf3⟩ := bcell hb3; have hc3_0 := fun o => hc3 (w.heap.size) o (by first | assumption | omega | (simp; done) | (simp; omega)); have hf3_0 := fun o => hf3 (w.heap.size) o (by first | assumption | omega | (simp; done) | (simp; omega)); clear hc3 hf3; have hz3_0 : w.heap.size < w3.heap.size := (by first | exact sz1 hb3 | exact sz2 hb3 | exact sz3 hb3 | (have := hb3.size; (try simp only [World.size_alloc, World.size_drew] at this); omega))))
      try (go_quiet (fail); go_wp2)
      go_ret3
      exact ⟨rfl, by repeat (first | (with_reducible exact Below.refl _ _) | (with_reducible assumption) | (with_reducible refine ba ?_) | (with_reducible refine bd ?_) | (with_reducible refine bdn ?_ _) | (with_reducible refine bset ?_ (by first | exact Nat.le_refl _ | omega | (simp; done) | (simp; omega))) | (with_reducible refine bt ?_ (by with_reducible assumption)))⟩
/-- where a search for a weekday ends -/
theorem down_at {n wk j : Int} (h0 : 0 ≤ wk) (h1 : wk ≤ 6) (hj0 : 0 ≤ j) (hj : j ≤ Day.backI n wk) : (n - j + 4) % 7 = wk ↔ j = Day.backI n wk := by
  unfold Day.backI at *
  constructor
  · intro h; omega
  · intro h; omega
theorem up_at {n wk j : Int} (h0 : 0 ≤ wk) (h1 : wk ≤ 6) (hj0 : 0 ≤ j) (hj : j ≤ 6 - Day.backI (n + 6) wk) : (n + j + 4) % 7 = wk ↔ j = 6 - Day.backI (n + 6) wk := by
  unfold Day.backI at *
  constructor
  · intro h; omega
  · intro h; omega
end RDay
end Go.Proofs.YtopdjebnfhfpcaaDoor
