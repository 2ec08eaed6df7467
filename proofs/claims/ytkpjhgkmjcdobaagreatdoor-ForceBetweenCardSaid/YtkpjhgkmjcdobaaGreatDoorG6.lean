import Derived.Test.YtkpjhgkmjcdobaaGreatDoorG5
/-
  noontideref03: Right, YearDay, Days, Date and Weekday, as the program runs them.
-/
namespace Go.Proofs.YtkpjhgkmjcdobaaGreatDoor
open Go.RowKit NB
namespace RCiv
set_option maxHeartbeats 800000 in
theorem Right (y m d : Int) (w : World) : Calls Tryz.prog 167 #[.agg #[.int .i64 y, .int .i64 m, .int .i64 d]] w fun e w' => e = .returned (.bool (Civ.right y m d)) ∧ Below w.heap.size w w' := by
  unfold Civ.right
  by_cases h1 : -40000 ≤ y
  case neg =>
    have d1 : decide (-40000 ≤ y) = false := by simpa using h1
    rw [d1]
    go_enter Tryz.func167, Tryz.ntmps167
    go_wp2
    go_quiet (fail)
    go_wp2
    go_ret
    exact ⟨rfl, by repeat (first | (with_reducible exact Below.refl _ _) | (with_reducible assumption) | (with_reducible refine ba ?_) | (with_reducible refine bd ?_) | (with_reducible refine bdn ?_ _) | (with_reducible refine bset ?_ (by first | exact Nat.le_refl _ | omega | (simp; done) | (simp; omega))) | (with_reducible refine bt ?_ (by with_reducible assumption)))⟩
  case pos =>
    by_cases h2 : y ≤ 40000
    case neg =>
      have d1 : decide (y ≤ 40000) = false := by simpa using h2
      rw [d1]
      go_enter Tryz.func167, Tryz.ntmps167
      go_wp2
      go_quiet (fail)
      go_wp2
      go_ret
      exact ⟨by simp, by repeat (first | (with_reducible exact Below.refl _ _) | (with_reducible assumption) | (with_reducible refine ba ?_) | (with_reducible refine bd ?_) | (with_reducible refine bdn ?_ _) | (with_reducible refine bset ?_ (by first | exact Nat.le_refl _ | omega | (simp; done) | (simp; omega))) | (with_reducible refine bt ?_ (by with_reducible assumption)))⟩
    case pos =>
      by_cases h3 : 1 ≤ d
      case neg =>
        have d1 : decide (1 ≤ d) = false := by simpa using h3
        rw [d1]
        go_enter Tryz.func167, Tryz.ntmps167
        go_wp2
        go_quiet (fail)
        go_wp2
        go_ret
        exact ⟨by simp, by repeat (first | (with_reducible exact Below.refl _ _) | (with_reducible assumption) | (with_reducible refine ba ?_) | (with_reducible refine bd ?_) | (with_reducible refine bdn ?_ _) | (with_reducible refine bset ?_ (by first | exact Nat.le_refl _ | omega | (simp; done) | (simp; omega))) | (with_reducible refine bt ?_ (by with_reducible assumption)))⟩
      case pos =>
        have hf : (decide (-40000 ≤ y) && decide (y ≤ 40000) && decide (1 ≤ d) && decide (d ≤ Cal.len y m)) = decide (d ≤ Cal.len y m) := by simp [h1, h2, h3]
        rw [hf]
        clear hf
        go_enter Tryz.func167, Tryz.ntmps167
        go_wp2
        (refine region_later (by kernel_rfl) (by kernel_rfl) ?_; (repeat (go_big_quiet_step (first | (go_at_call 85; rename_i xL; apply calls_later xL (Nat.le_refl _); exact (Len _ _ _))))); refine wpQuiet_nil ?_; rintro _ ⟨⟨u1, hu1⟩, rfl⟩)
        go_wp2
        go_ret
        exact ⟨rfl, by repeat (first | (with_reducible exact Below.refl _ _) | (with_reducible assumption) | (with_reducible refine ba ?_) | (with_reducible refine bd ?_) | (with_reducible refine bdn ?_ _) | (with_reducible refine bset ?_ (by first | exact Nat.le_refl _ | omega | (simp; done) | (simp; omega))) | (with_reducible refine bt ?_ (by with_reducible assumption)))⟩
theorem cum_one (y : Int) : Cal.cum y 1 = 0 := by unfold Cal.cum; simp
set_option maxHeartbeats 1600000 in
theorem YearDay (y m d : Int) (w : World) : Calls Tryz.prog 129 #[.agg #[.int .i64 y, .int .i64 m, .int .i64 d]] w fun e w' =>
    e = .returned (if Civ.right y m d then .tuple #[.int .i64 (Cal.cum y m + d), .int .i64 0] else .tuple #[.int .i64 0, .int .i64 1]) ∧ Below w.heap.size w w' := by
  have cr := Right y m d
  cases hr : Civ.right y m d
  · rw [hr] at cr
    have Cr := Lib.hid cr
    clear cr hr
    rw [if_neg (by decide)]
    go_enter Tryz.func129, Tryz.ntmps129
    go_wp2_with (go_at_call 167; (with_reducible refine (Cr.out _).mono ?_); rintro e w1 ⟨rfl, hb1⟩; obtain ⟨hc1, hf1⟩ := bcell hb1; have hc1_0 := fun o => hc1 (w.heap.size) o (by first | assumption | omega | (simp; done) | (simp; omega)); have hf1_0 := fun o => hf1 (w.heap.size) o (by first | assumption | omega | (simp; done) | (simp; omega)); clear hc1 hf1; have hz1_0 : w.heap.size < w1.heap.size := (by first | exact sz1 hb1 | exact sz2 hb1 | exact sz3 hb1 | (have := hb1.size; (try simp only [World.size_alloc, World.size_drew] at this); omega)))
    go_ret2
    exact ⟨rfl, by repeat (first | (with_reducible exact Below.refl _ _) | (with_reducible assumption) | (with_reducible refine ba ?_) | (with_reducible refine bd ?_) | (with_reducible refine bdn ?_ _) | (with_reducible refine bset ?_ (by first | exact Nat.le_refl _ | omega | (simp; done) | (simp; omega))) | (with_reducible refine bt ?_ (by with_reducible assumption)))⟩
  · rw [hr] at cr
    obtain ⟨y0, y1, m0, m1, d0, d1⟩ := Civ.right_spec hr
    have lb := Cal.len_le y m
    have Cr := Lib.hid cr
    clear cr hr
    rw [if_pos rfl]
    go_enter Tryz.func129, Tryz.ntmps129
    go_wp2_with (go_at_call 167; (with_reducible refine (Cr.out _).mono ?_); rintro e w1 ⟨rfl, hb1⟩; obtain ⟨hc1, hf1⟩ := bcell hb1; have hc1_0 := fun o => hc1 (w.heap.size) o (by first | assumption | omega | (simp; done) | (simp; omega)); have hf1_0 := fun o => hf1 (w.heap.size) o (by first | assumption | omega | (simp; done) | (simp; omega)); clear hc1 hf1; have hz1_0 : w.heap.size < w1.heap.size := (by first | exact sz1 hb1 | exact sz2 hb1 | exact sz3 hb1 | (have := hb1.size; (try simp only [World.size_alloc, World.size_drew] at this); omega)))
    have hB : Below w.heap.size w w1 := by repeat (first | (with_reducible exact Below.refl _ _) | (with_reducible assumption) | (with_reducible refine ba ?_) | (with_reducible refine bd ?_) | (with_reducible refine bdn ?_ _) | (with_reducible refine bset ?_ (by first | exact Nat.le_refl _ | omega | (simp; done) | (simp; omega))) | (with_reducible refine bt ?_ (by with_reducible assumption)))
    have bx : Box w1 w.heap.size #[.int .i64 y, .int .i64 m, .int .i64 d] 114 := Box.later (Box.new w _ _) hb1
    clear hc1_0 hf1_0 hb1
    go_loopw [4, 5] (fun s i wr => ∃ k : Int, s = .int .i64 (Cal.cum y k + d) ∧ i = .int .i64 k ∧ 1 ≤ k ∧ k ≤ m ∧ (0 ≤ Cal.cum y k ∧ Cal.cum y k ≤ 366) ∧ Below w.heap.size w wr ∧ Box wr w.heap.size #[.int .i64 y, .int .i64 m, .int .i64 d] 114) (fun _ i _ => (m - intOf i).toNat)
    case atStart => exact ⟨1, by rw [cum_one, Int.zero_add], rfl, by omega, by omega, by rw [cum_one]; omega, hB, bx⟩
    case round =>
      obtain ⟨k, rfl, rfl, hk1, hkm, hcb, hbel, hbx⟩ := hrel
      have u0 := hbx.lt
      have f0 := hbx.cell
      by_cases hlt : k < m
      · have hcs := Cal.cum_succ y k (by omega) (by omega)
        have hcb1 := Cal.cum_bd y (k + 1) (by omega) (by omega)
        have hl0 := Cal.len_le y (k + 1)
        have hlp := Cal.lp_01 y
        have hlk := Cal.len_le y k
        have cl := Len y k
        generalize Cal.len y k = lk at *
        generalize Cal.cum y k = ck at *
        have Hcs := Lib.hid hcs
        have Cl := Lib.hid cl
        have Hcb1 : 0 ≤ Cal.cum y (k + 1) ∧ Cal.cum y (k + 1) ≤ 366 := by omega
        clear hcs cl hcb1 hl0 hlp
        go_wp2_with (go_at_call 85; (with_reducible refine (Cl.out _).mono ?_); rintro e w2 ⟨rfl, hb2⟩; obtain ⟨hc2, hf2⟩ := bcell hb2; have hc2_0 := fun o => hc2 (w.heap.size) o (by first | assumption | omega | (simp; done) | (simp; omega)); have hf2_0 := fun o => hf2 (w.heap.size) o (by first | assumption | omega | (simp; done) | (simp; omega)); clear hc2 hf2; have hz2_0 : w.heap.size < w2.heap.size := (by first | exact sz1 hb2 | exact sz2 hb2 | exact sz3 hb2 | (have := hb2.size; (try simp only [World.size_alloc, World.size_drew] at this); omega)))
        go_roundw
        case rel => exact ⟨k + 1, by rw [Hcs.out]; go_num, rfl, by omega, by omega, Hcb1, by repeat (first | (with_reducible exact Below.refl _ _) | (with_reducible assumption) | (with_reducible refine ba ?_) | (with_reducible refine bd ?_) | (with_reducible refine bdn ?_ _) | (with_reducible refine bset ?_ (by first | exact Nat.le_refl _ | omega | (simp; done) | (simp; omega))) | (with_reducible refine bt ?_ (by with_reducible assumption))), by repeat (first | (with_reducible assumption) | (with_reducible exact Box.new _ _ _) | (with_reducible refine Box.old ?_) | (with_reducible refine Box.drew ?_) | (with_reducible refine Box.drewN ?_ _) | (with_reducible refine Box.other ?_ (by first | assumption | omega | (simp; omega))) | (with_reducible refine Box.later ?_ (by with_reducible assumption)))⟩
        case measure => simp [intOf]; omega
      · obtain rfl : k = m := by omega
        go_wp2
        go_ret2
        exact ⟨rfl, by repeat (first | (with_reducible exact Below.refl _ _) | (with_reducible assumption) | (with_reducible refine ba ?_) | (with_reducible refine bd ?_) | (with_reducible refine bdn ?_ _) | (with_reducible refine bset ?_ (by first | exact Nat.le_refl _ | omega | (simp; done) | (simp; omega))) | (with_reducible refine bt ?_ (by with_reducible assumption)))⟩
set_option maxHeartbeats 1600000 in
theorem Days (y m d : Int) (w : World) : Calls Tryz.prog 84 #[.agg #[.int .i64 y, .int .i64 m, .int .i64 d]] w fun e w' =>
    e = .returned (if Civ.right y m d then .tuple #[.int .i64 (Cal.days y m d), .int .i64 0] else .tuple #[.int .i64 0, .int .i64 1]) ∧ Below w.heap.size w w' := by
  have cy := YearDay y m d
  cases hr : Civ.right y m d
  · rw [hr, if_neg (by decide)] at cy
    rw [if_neg (by decide)]
    have Cy := Lib.hid cy
    clear cy hr
    go_enter Tryz.func84, Tryz.ntmps84
    go_wp2_with (go_at_call 129; (with_reducible refine (Cy.out _).mono ?_); rintro e w1 ⟨rfl, hb1⟩; obtain ⟨hc1, hf1⟩ := bcell hb1; have hc1_0 := fun o => hc1 (w.heap.size) o (by first | assumption | omega | (simp; done) | (simp; omega)); have hf1_0 := fun o => hf1 (w.heap.size) o (by first | assumption | omega | (simp; done) | (simp; omega)); clear hc1 hf1; have hz1_0 : w.heap.size < w1.heap.size := (by first | exact sz1 hb1 | exact sz2 hb1 | exact sz3 hb1 | (have := hb1.size; (try simp only [World.size_alloc, World.size_drew] at this); omega)))
    go_ret2
    exact ⟨rfl, by repeat (first | (with_reducible exact Below.refl _ _) | (with_reducible assumption) | (with_reducible refine ba ?_) | (with_reducible refine bd ?_) | (with_reducible refine bdn ?_ _) | (with_reducible refine bset ?_ (by first | exact Nat.le_refl _ | omega | (simp; done) | (simp; omega))) | (with_reducible refine bt ?_ (by with_reducible assumption)))⟩
  · rw [hr, if_pos rfl] at cy
    rw [if_pos rfl]
    obtain ⟨y0, y1, m0, m1, d0, d1⟩ := Civ.right_spec hr
    have ca := Ahead y (by omega) (by omega)
    have ab := Cal.ahead_bd y (by omega) (by omega)
    have cb := Cal.cum_bd y m m0 m1
    have lb := Cal.len_le y m
    have lp := Cal.lp_01 y
    unfold Cal.days
    rw [Int.add_assoc (Cal.ahead y)]
    generalize Cal.ahead y = a at *
    have cd0 : 0 ≤ Cal.cum y m + d := by omega
    have cd1 : Cal.cum y m + d ≤ 400 := by omega
    generalize Cal.cum y m + d = c at *
    have Cy := Lib.hid cy
    have Ca := Lib.hid ca
    clear cy ca hr
    go_enter Tryz.func84, Tryz.ntmps84
    go_wp2_with (first | (go_at_call 129; (with_reducible refine (Cy.out _).mono ?_); rintro e w1 ⟨rfl, hb1⟩; obtain ⟨hc1, hf1⟩ := bcell hb1; have hc1_0 := fun o => hc1 (w.heap.size) o (by first | assumption | omega | (simp; done) | (simp; omega)); have hf1_0 := fun o => hf1 (w.heap.size) o (by first | assumption | omega | (simp; done) | (simp; omega)); clear hc1 hf1; have hz1_0 : w.heap.size < w1.heap.size := (by first | exact sz1 hb1 | exact sz2 hb1 | exact sz3 hb1 | (have := hb1.size; (try simp only [World.size_alloc, World.size_drew] at this); omega))) | (go_at_call 130; (with_reducible refine (Ca.out _).mono ?_); rintro e w' ⟨rfl, rfl⟩))
    go_ret2
    exact ⟨rfl, by repeat (first | (with_reducible exact Below.refl _ _) | (with_reducible assumption) | (with_reducible refine ba ?_) | (with_reducible refine bd ?_) | (with_reducible refine bdn ?_ _) | (with_reducible refine bset ?_ (by first | exact Nat.le_refl _ | omega | (simp; done) | (simp; omega))) | (with_reducible refine bt ?_ (by with_reducible assumption)))⟩
theorem Weekday (n : Int) (h0 : -9000000000000000000 ≤ n) (h1 : n ≤ 9000000000000000000) (w : World) :
    Calls Tryz.prog 86 #[.int .i64 n] w fun e w' => e = .returned (.int .i64 ((n + 4) % 7)) ∧ w = w' := by
  have cr := RNum.Rest n 7 (by omega) (by omega) (by omega) (by omega)
  rw [show (n + 4) % 7 = (n % 7 + 4) % 7 by omega]
  have r0 : 0 ≤ n % 7 := by omega
  have r1 : n % 7 ≤ 6 := by omega
  generalize n % 7 = r at *
  have Cr := Lib.hid cr
  clear cr
  go_enter Tryz.func86, Tryz.ntmps86
  go_wp2_with (go_at_call 132; (with_reducible refine (Cr.out _).mono ?_); rintro e w' ⟨rfl, rfl⟩)
  go_ret
  exact ⟨rfl, rfl⟩
def okN (n : Int) : Bool := decide (Cal.ahead (-40000) ≤ n) && decide (n < Cal.ahead 40001)
theorem ahead_lo : Cal.ahead (-40000) = -15329228 := by decide +kernel
theorem ahead_hi : Cal.ahead 40001 = 13890538 := by decide +kernel
theorem start_le (n : Int) (h0 : -15329228 ≤ n) (h1 : n < 13890538) : -42000 ≤ 1970 + n / 366 ∧ 1970 + n / 366 ≤ 40000 := by omega
theorem dY_bd (n : Int) (h0 : -15329228 ≤ n) (h1 : n < 13890538) : -40000 ≤ Yr.dY n ∧ Yr.dY n ≤ 40000 := by
  have hy := Yr.year_of n
  have e1 := ahead_lo
  have e2 := ahead_hi
  constructor
  · rcases (by omega : -40000 ≤ Yr.dY n ∨ Yr.dY n + 1 ≤ -40000) with h | h
    · exact h
    · have := Cal.ahead_mono h; omega
  · rcases (by omega : Yr.dY n ≤ 40000 ∨ 40001 ≤ Yr.dY n) with h | h
    · exact h
    · have := Cal.ahead_mono h; omega
theorem ahead_lt_iff (n y : Int) : Cal.ahead y ≤ n ↔ y ≤ Yr.dY n := by
  have hy := Yr.year_of n
  constructor
  · intro h
    rcases (by omega : y ≤ Yr.dY n ∨ Yr.dY n + 1 ≤ y) with h' | h'
    · exact h'
    · have := Cal.ahead_mono h'; omega
  · intro h
    have := Cal.ahead_mono h; omega
end RCiv
end Go.Proofs.YtkpjhgkmjcdobaaGreatDoor
/-
  dayrule: what its functions give, as the program runs them.
-/
namespace Go.Proofs.YtkpjhgkmjcdobaaGreatDoor
open Go.RowKit NB
namespace Day
/-- whether a name of a day may be -/
def onRight (k wk d : Int) : Bool := if k = 1 then decide (0 ≤ wk ∧ wk ≤ 6 ∧ d = 0) else decide (0 ≤ k ∧ k ≤ 3 ∧ 0 ≤ wk ∧ wk ≤ (if k = 0 then 0 else 6) ∧ 1 ≤ d ∧ d ≤ 31)
theorem onRight_iff (k wk d : Int) : onRight k wk d = true ↔ (k = 1 ∧ 0 ≤ wk ∧ wk ≤ 6 ∧ d = 0) ∨ (k = 0 ∧ wk = 0 ∧ 1 ≤ d ∧ d ≤ 31) ∨ ((k = 2 ∨ k = 3) ∧ 0 ≤ wk ∧ wk ≤ 6 ∧ 1 ≤ d ∧ d ≤ 31) := by
  unfold onRight
  by_cases h1 : k = 1
  · simp [h1]
  · by_cases h0 : k = 0
    · simp [h0]; omega
    · simp [h1, h0]; omega
theorem within (n lo hi : Int) (w : World) : Calls Tryz.prog 78 #[.int .i64 n, .int .i64 lo, .int .i64 hi] w fun e w' => e = .returned (.bool (decide (lo ≤ n) && decide (n ≤ hi))) ∧ w = w' := by
  go_enter Tryz.func78, Tryz.ntmps78
  go_wp2
  all_goals
    go_ret
    refine ⟨ret_bool ?_, rfl⟩
    simp [*]
    try omega
set_option maxHeartbeats 800000 in
theorem Right (k wk d : Int) (w : World) : Calls Tryz.prog 123 #[.agg #[.int .i64 k, .int .i64 wk, .int .i64 d]] w fun e w' => e = .returned (.bool (onRight k wk d)) ∧ Below w.heap.size w w' := by
  go_enter Tryz.func123, Tryz.ntmps123
  go_wp2
  all_goals
    go_ret
    refine ⟨ret_bool ?_, (Below.refl _ _).alloc (Nat.le_refl _) _⟩
    rw [Bool.eq_iff_iff, onRight_iff]
    simp only [beq_iff_eq, beq_eq_false_iff_ne, ne_eq, decide_eq_true_eq, Bool.false_eq_true, false_iff] at *
    omega

/-- whether it fits a month -/
def fits (k wk d m : Int) : Bool := onRight k wk d && (decide (1 ≤ m) && decide (m ≤ 12)) && decide (d ≤ Cal.len 1 m)
theorem fits_spec {k wk d m : Int} (h : fits k wk d m = true) : 1 ≤ m ∧ m ≤ 12 ∧ d ≤ Cal.len 1 m ∧ ((k = 1 ∧ 0 ≤ wk ∧ wk ≤ 6 ∧ d = 0) ∨ (k = 0 ∧ wk = 0 ∧ 1 ≤ d ∧ d ≤ 31) ∨ ((k = 2 ∨ k = 3) ∧ 0 ≤ wk ∧ wk ≤ 6 ∧ 1 ≤ d ∧ d ≤ 31)) := by
  unfold fits at h
  simp only [Bool.and_eq_true, decide_eq_true_eq] at h
  exact ⟨h.1.2.1, h.1.2.2, h.2, (onRight_iff _ _ _).1 h.1.1⟩
set_option maxHeartbeats 800000 in
theorem Fits (k wk d m : Int) (w : World) : Calls Tryz.prog 77 #[.agg #[.int .i64 k, .int .i64 wk, .int .i64 d], .int .i64 m] w fun e w' => e = .returned (.bool (fits k wk d m)) ∧ Below w.heap.size w w' := by
  unfold fits
  cases h1 : onRight k wk d
  case false =>
    have H1 := Lib.hid h1; clear h1
    go_enter Tryz.func77, Tryz.ntmps77
    go_wp2
    refine region_later (by kernel_rfl) (by kernel_rfl) ?_
    repeat (go_big_quiet_step ((go_at_call 123; rename_i xL; apply calls_later xL (Nat.le_refl _); refine (Right _ _ _ _).mono ?_; rw [H1.out]; exact fun _ _ h => h)))
    refine wpQuiet_nil ?_
    rintro _ ⟨⟨u, hu⟩, rfl⟩
    go_wp2
    go_ret
    exact ⟨rfl, ((Below.refl _ _).alloc (Nat.le_refl _) _).trans (hu.mono (by simp))⟩
  case true =>
    have H1 := Lib.hid h1; clear h1
    cases h2 : (decide (1 ≤ m) && decide (m ≤ 12))
    case false =>
      have H2 := Lib.hid h2; clear h2
      go_enter Tryz.func77, Tryz.ntmps77
      go_wp2
      refine region_later (by kernel_rfl) (by kernel_rfl) ?_
      repeat (go_big_quiet_step (first | (go_at_call 123; rename_i xL; apply calls_later xL (Nat.le_refl _); refine (Right _ _ _ _).mono ?_; rw [H1.out]; exact fun _ _ h => h) | (go_at_call 78; rename_i xL; apply calls_later xL (Nat.le_refl _); apply below_of_same; refine (within _ _ _ _).mono ?_; rw [H2.out]; exact fun _ _ h => h)))
      refine wpQuiet_nil ?_
      rintro _ ⟨⟨u, hu⟩, rfl⟩
      go_wp2
      go_ret
      exact ⟨rfl, ((Below.refl _ _).alloc (Nat.le_refl _) _).trans (hu.mono (by simp))⟩
    case true =>
      have H2 := Lib.hid h2; clear h2
      go_enter Tryz.func77, Tryz.ntmps77
      go_wp2
      refine region_later (by kernel_rfl) (by kernel_rfl) ?_
      repeat (go_big_quiet_step (first | (go_at_call 123; rename_i xL; apply calls_later xL (Nat.le_refl _); refine (Right _ _ _ _).mono ?_; rw [H1.out]; exact fun _ _ h => h) | (go_at_call 78; rename_i xL; apply calls_later xL (Nat.le_refl _); apply below_of_same; refine (within _ _ _ _).mono ?_; rw [H2.out]; exact fun _ _ h => h) | (go_at_call 80; rename_i xL; exact calls_later xL (Nat.le_refl _) (below_of_same (Civ.Len _ _ _)))))
      refine wpQuiet_nil ?_
      rintro _ ⟨⟨u, hu⟩, rfl⟩
      go_wp2
      go_ret
      exact ⟨rfl, ((Below.refl _ _).alloc (Nat.le_refl _) _).trans (hu.mono (by simp))⟩

/-- how many days a day is behind the last one of a weekday -/
def backI (n wk : Int) : Int := ((n + 4) % 7 - wk + 7) % 7
theorem back (n wk : Int) (h0 : -9000000000000000000 ≤ n) (h1 : n ≤ 9000000000000000000) (h2 : 0 ≤ wk) (h3 : wk ≤ 6) (w : World) :
    Calls Tryz.prog 81 #[.int .i64 n, .int .i64 wk] w fun e w' => e = .returned (.int .i64 (backI n wk)) ∧ Below w.heap.size w w' := by
  unfold backI
  have q3 : 0 ≤ (n + 4) % 7 := by omega
  have q4 : (n + 4) % 7 ≤ 6 := by omega
  go_enter Tryz.func81, Tryz.ntmps81
  go_wp2_with (go_at_call 127; refine (Civ.Weekday _ (by omega) (by omega) _).mono ?_; rintro e w1 ⟨rfl, hb⟩)
  go_ret
  exact ⟨rfl, hb⟩
end Day
end Go.Proofs.YtkpjhgkmjcdobaaGreatDoor
/-
  dayrule, continued: windows and days.
-/
namespace Go.Proofs.YtkpjhgkmjcdobaaGreatDoor
open Go.RowKit NB
namespace Day
def winLow (k d m : Int) : Int := if k = 1 then Cal.len 1 m - 6 else if k = 3 then d - 6 else d
def winHigh (k d m : Int) : Int := if k = 1 then Cal.len 4 m else if k = 2 then d + 6 else d
theorem kinds {k wk d m : Int} (h : fits k wk d m = true) : k = 1 ∨ k = 0 ∨ k = 2 ∨ k = 3 := by
  obtain ⟨_, _, _, h⟩ := fits_spec h
  omega
theorem days31 {k wk d m : Int} (h : fits k wk d m = true) : 0 ≤ d ∧ d ≤ 31 ∧ 0 ≤ wk ∧ wk ≤ 6 := by
  obtain ⟨_, _, _, h⟩ := fits_spec h
  omega

/-- the day that is named -/
def dayI (k wk d y m : Int) : Int :=
  if k = 1 then (Cal.days y m 1 + Cal.len y m - 1) - backI (Cal.days y m 1 + Cal.len y m - 1) wk
  else if k = 2 then (Cal.days y m 1 + d - 1) + (6 - backI (Cal.days y m 1 + d - 1 + 6) wk)
  else if k = 3 then (Cal.days y m 1 + d - 1) - backI (Cal.days y m 1 + d - 1) wk
  else Cal.days y m 1 + d - 1
theorem backI_bd (n wk : Int) : 0 ≤ backI n wk ∧ backI n wk ≤ 6 := by unfold backI; omega
theorem right_first {y m : Int} (h1 : -40000 ≤ y) (h2 : y ≤ 40000) (h3 : 1 ≤ m) (h4 : m ≤ 12) : Civ.right y m 1 = true := by
  have := Cal.len_bd y m h3 h4
  unfold Civ.right
  simp only [Bool.and_eq_true, decide_eq_true_eq]
  omega
theorem first_bd {y m : Int} (h1 : -40000 ≤ y) (h2 : y ≤ 40000) (h3 : 1 ≤ m) (h4 : m ≤ 12) : -16000000 ≤ Cal.days y m 1 ∧ Cal.days y m 1 ≤ 16000000 := by
  have := Cal.ahead_bd y (by omega) (by omega)
  have := Cal.cum_bd y m h3 h4
  have := Cal.len_bd y m h3 h4
  have := Cal.lp_01 y
  unfold Cal.days; omega

theorem back' (n wk : Int) (h0 : -9000000000000000000 ≤ n) (h1 : n ≤ 9000000000000000000) (h2 : 0 ≤ wk) (h3 : wk ≤ 6) (w : World) :
    Calls Tryz.prog 81 #[.int .i64 n, .int .i64 wk] w fun e w' => ∃ r, e = .returned (.int .i64 r) ∧ r = backI n wk ∧ 0 ≤ r ∧ r ≤ 6 ∧ Below w.heap.size w w' :=
  (back n wk h0 h1 h2 h3 w).mono fun _ _ ⟨he, hb⟩ => ⟨_, he, rfl, (backI_bd n wk).1, (backI_bd n wk).2, hb⟩

set_option maxHeartbeats 1600000 in
theorem Days (k wk d y m : Int) (w : World) : Calls Tryz.prog 39 #[.agg #[.int .i64 k, .int .i64 wk, .int .i64 d], .int .i64 y, .int .i64 m] w fun e w' =>
    e = .returned (if fits k wk d m then (if -39999 ≤ y ∧ y ≤ 39999 then .tuple #[.int .i64 (dayI k wk d y m), .int .i64 0] else .tuple #[.int .i64 0, .int .i64 1]) else .tuple #[.int .i64 0, .int .i64 4]) ∧ Below w.heap.size w w' := by
  cases h1 : fits k wk d m
  case false =>
    have H1 := Lib.hid h1; clear h1
    go_enter Tryz.func39, Tryz.ntmps39
    go_wp2_with (go_at_call 77; refine (Fits _ _ _ _ _).mono ?_; rw [H1.out]; rintro e w1 ⟨rfl, hb⟩)
    go_ret2
    exact ⟨rfl, ((Below.refl _ _).alloc (Nat.le_refl _) _).trans (hb.mono (by simp))⟩
  case true =>
    by_cases hy : -39999 ≤ y ∧ y ≤ 39999
    case neg =>
      have H1 := Lib.hid h1; clear h1
      have hw : (decide (-39999 ≤ y) && decide (y ≤ 39999)) = false := by
        rw [Bool.eq_false_iff]; intro h; simp only [Bool.and_eq_true, decide_eq_true_eq] at h; exact hy h
      have HW := Lib.hid hw; clear hw
      rw [if_pos rfl, if_neg hy]
      clear hy
      go_enter Tryz.func39, Tryz.ntmps39
      go_wp2_with (first | (go_at_call 77; refine (Fits _ _ _ _ _).mono ?_; rw [H1.out]; rintro e w1 ⟨rfl, hb⟩; obtain ⟨hc, hfz⟩ := bcell hb) | (go_at_call 78; refine (within _ _ _ _).mono ?_; rw [HW.out]; rintro e w2 ⟨rfl, rfl⟩))
      go_ret2
      exact ⟨rfl, ((Below.refl _ _).alloc (Nat.le_refl _) _).trans (hb.mono (by simp))⟩
    case pos =>
      rw [if_pos rfl, if_pos hy]
      have hk := kinds h1
      obtain ⟨d0, d1, w0, w1⟩ := days31 h1
      obtain ⟨m0, m1, _, _⟩ := fits_spec h1
      obtain ⟨y0, y1⟩ := hy
      have H1 := Lib.hid h1; clear h1
      have hw : (decide (-39999 ≤ y) && decide (y ≤ 39999)) = true := by
        simp only [Bool.and_eq_true, decide_eq_true_eq]; exact ⟨y0, y1⟩
      have HW := Lib.hid hw; clear hw
      have HR := Lib.hid (right_first (y := y) (m := m) (by omega) (by omega) m0 m1)
      have fb := first_bd (y := y) (m := m) (by omega) (by omega) m0 m1
      have l1 := Cal.len_le y m
      unfold dayI
      generalize hF : Cal.days y m 1 = F at *
      have HF := Lib.hid hF; clear hF
      rcases hk with rfl | rfl | rfl | rfl
      all_goals
        simp only [Int.reduceEq, if_true, if_false]
        go_enter Tryz.func39, Tryz.ntmps39
        go_wp2_with (first | (go_at_call 77; refine (Fits _ _ _ _ _).mono ?_; rw [H1.out]; rintro e w1 ⟨rfl, hb⟩; obtain ⟨hc, hfz⟩ := bcell hb; have hz : w.heap.size < w1.heap.size := by (have := hb.size; simp at this; omega)) | (go_at_call 78; refine (within _ _ _ _).mono ?_; rw [HW.out]; rintro e w2 ⟨rfl, rfl⟩) | (go_at_call 79; refine (Civ.Days _ _ _ _).mono ?_; rw [HR.out, if_pos rfl, HF.out]; rintro e w3 ⟨rfl, hb3⟩; obtain ⟨hc3, hfz3⟩ := bcell hb3; have hz3 := hb3.size) | (go_at_call 80; refine (Civ.Len _ _ _).mono ?_; rintro e w5 ⟨rfl, rfl⟩) | (go_at_call 81; refine (back' _ _ (by omega) (by omega) (by omega) (by omega) _).mono ?_; rintro e w4 ⟨r, rfl, hr, r0, r1, hb4⟩; have HR4 := Lib.hid hr; clear hr))
        go_ret2
        first
          | (refine ⟨ret_ii ?_ rfl, ((((Below.refl _ _).alloc (Nat.le_refl _) _).trans (hb.mono (by simp))).trans (hb3.mono (by omega))).trans (hb4.mono (by omega))⟩
             first | (rw [HR4.out]; done) | (rw [HR4.out]; omega) | (rw [HR4.out, show F + d - 1 + 6 = F + d - 1 + 7 - 1 by omega]))
          | exact ⟨ret_ii (by omega) rfl, (((Below.refl _ _).alloc (Nat.le_refl _) _).trans (hb.mono (by simp))).trans (hb3.mono (by omega))⟩
end Day
end Go.Proofs.YtkpjhgkmjcdobaaGreatDoor
