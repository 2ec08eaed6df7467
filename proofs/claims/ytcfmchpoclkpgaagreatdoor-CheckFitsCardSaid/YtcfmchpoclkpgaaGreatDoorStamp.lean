import Derived.Test.YtcfmchpoclkpgaaGreatDoorG6
import Derived.Test.YtcfmchpoclkpgaaGreatDoorG4
import Derived.Test.YtcfmchpoclkpgaaGreatDoorG8
namespace Go.Proofs.YtcfmchpoclkpgaaGreatDoor
open Go.RowKit NB
namespace Stp
theorem dq_bd (n : Int) (h0 : -16000000 ≤ n) (h1 : n ≤ 16000000) : -200 ≤ Yr.dq n ∧ Yr.dq n ≤ 200 := by unfold Yr.dq;omega
set_option maxHeartbeats 1600000 in
theorem date (n : Int) (h0 : -16000000 ≤ n) (h1 : n ≤ 16000000) (w : World) :
    Calls Tryz.prog 288 #[.int .i64 n] w fun e w' => e = .returned (.agg #[.int .i64 (Yr.dY n), .int .i64 (Yr.dM n), .int .i64 (Yr.dD n)]) ∧ Below w.heap.size w w' := by
  obtain ⟨q0, q1⟩ := dq_bd n h0 h1
  obtain ⟨r0, r1⟩ := Yr.dr_bd n
  obtain ⟨y0, y1, _, _⟩ := Yr.yr (Yr.dr n) r0 r1
  obtain ⟨l0, l1⟩ := Yr.dl_bd n
  have l2 := (Cal.lp_01 (Yr.dq n * 400 + Yr.dy n + 1)).2
  have l3 : Yr.dl n ≤ 365 := by omega
  clear l1 l2
  rw [show Yr.F (Yr.dr n) = Yr.dy n from rfl] at y0 y1
  have hy : Yr.dy n = (Yr.dr n - Yr.dr n / 1460 + Yr.dr n / 36524 - Yr.dr n / 146096) / 365 := rfl
  have hl : Yr.dl n = Yr.dr n - (365 * Yr.dy n + Yr.dy n / 4 - Yr.dy n / 100) := rfl
  have hd := Num.Div (n + 719468) 146097 (by omega) (by omega) (by omega) (by omega)
  rw [show (n + 719468) / 146097 = Yr.dq n from rfl, show (n + 719468) % 146097 = Yr.dr n from rfl] at hd
  have Hd := Lib.hid hd
  clear hd
  unfold Yr.dY Yr.dM Yr.dD Yr.dm
  generalize Yr.dq n = q at *
  generalize Yr.dr n = r at *
  generalize Yr.dy n = y at *
  generalize Yr.dl n = l at *
  have Hy := Lib.hid hy
  have Hl := Lib.hid hl
  clear hy hl
  by_cases hm : 12 < (5 * l + 2) / 153 + 3
  · rw [if_pos hm, if_pos hm]
    go_enter Tryz.func288, Tryz.ntmps288
    go_upto_region 3 with (go_at_call 286;(with_reducible refine (Hd.out _).mono ?_);rintro e w1 ⟨rfl, hb1⟩;obtain ⟨hc1, hf1⟩ := bcell hb1;have hc1_0 := fun o => hc1 (w.heap.size) o (by first|assumption|omega|(simp;done)|(simp;omega));have hf1_0 := fun o => hf1 (w.heap.size) o (by first|assumption|omega|(simp;done)|(simp;omega));clear hc1 hf1;have hz1_0 : w.heap.size < w1.heap.size := (by first|exact sz1 hb1|exact sz2 hb1|exact sz3 hb1|(have := hb1.size;(try simp only [World.size_alloc, World.size_drew] at this);omega)))
    rw [← Hy.out]
    go_upto_region 4 with fail
    rw [← Hl.out]
    go_wp2_with (go_at_call 287;(with_reducible refine (Civ.march _ (by omega) (by omega) _).mono ?_);rintro e w' ⟨rfl, rfl⟩)
    refine bodyPost_ret (v := .agg #[.int .i64 (q * 400 + y + 1), .int .i64 ((5 * l + 2) / 153 + 3 - 12), .int .i64 (l - (153 * ((5 * l + 2) / 153) + 2) / 5 + 1)]) ?_ rfl ⟨rfl, ?_⟩
    · simp only [results, Tryz.results288]
      go_simp
    · repeat (first|(with_reducible exact Below.refl _ _)|(with_reducible assumption)|(with_reducible refine ba ?_)|(with_reducible refine bd ?_)|(with_reducible refine bdn ?_ _)|(with_reducible refine bset ?_ (by first|exact Nat.le_refl _|omega|(simp;done)|(simp;omega)))|(with_reducible refine bt ?_ (by with_reducible assumption)))
  · rw [if_neg hm, if_neg hm]
    go_enter Tryz.func288, Tryz.ntmps288
    go_upto_region 3 with (go_at_call 286;(with_reducible refine (Hd.out _).mono ?_);rintro e w1 ⟨rfl, hb1⟩;obtain ⟨hc1, hf1⟩ := bcell hb1;have hc1_0 := fun o => hc1 (w.heap.size) o (by first|assumption|omega|(simp;done)|(simp;omega));have hf1_0 := fun o => hf1 (w.heap.size) o (by first|assumption|omega|(simp;done)|(simp;omega));clear hc1 hf1;have hz1_0 : w.heap.size < w1.heap.size := (by first|exact sz1 hb1|exact sz2 hb1|exact sz3 hb1|(have := hb1.size;(try simp only [World.size_alloc, World.size_drew] at this);omega)))
    rw [← Hy.out]
    go_upto_region 4 with fail
    rw [← Hl.out]
    go_wp2_with (go_at_call 287;(with_reducible refine (Civ.march _ (by omega) (by omega) _).mono ?_);rintro e w' ⟨rfl, rfl⟩)
    refine bodyPost_ret (v := .agg #[.int .i64 (q * 400 + y), .int .i64 ((5 * l + 2) / 153 + 3), .int .i64 (l - (153 * ((5 * l + 2) / 153) + 2) / 5 + 1)]) ?_ rfl ⟨rfl, ?_⟩
    · simp only [results, Tryz.results288]
      go_simp
    · repeat (first|(with_reducible exact Below.refl _ _)|(with_reducible assumption)|(with_reducible refine ba ?_)|(with_reducible refine bd ?_)|(with_reducible refine bdn ?_ _)|(with_reducible refine bset ?_ (by first|exact Nat.le_refl _|omega|(simp;done)|(simp;omega)))|(with_reducible refine bt ?_ (by with_reducible assumption)))
def zeroD : Value := .tuple #[.agg #[.int .i64 0, .int .i64 0, .int .i64 0], .int .i64 1]
def okD (n : Int) : Bool := decide (-16000000 ≤ n) && decide (n ≤ 16000000) && Civ.right (Yr.dY n) (Yr.dM n) (Yr.dD n)
set_option maxHeartbeats 1600000 in
theorem Date (n : Int) (w : World) :
    Calls Tryz.prog 255 #[.int .i64 n] w fun e w' => e = .returned (if okD n then .tuple #[.agg #[.int .i64 (Yr.dY n), .int .i64 (Yr.dM n), .int .i64 (Yr.dD n)], .int .i64 0] else .tuple #[.agg #[.int .i64 0, .int .i64 0, .int .i64 0], .int .i64 1]) ∧ Below w.heap.size w w' := by
  unfold okD
  by_cases h0 : n < -16000000
  · rw [decide_eq_false (by omega : ¬ -16000000 ≤ n)]
    simp only [Bool.false_and, Bool.false_eq_true, if_false]
    go_enter Tryz.func255, Tryz.ntmps255
    go_wp2
    refine bodyPost_ret (v := .tuple #[.agg #[.int .i64 0, .int .i64 0, .int .i64 0], .int .i64 1]) ?_ rfl ⟨rfl, ?_⟩
    · simp only [results, Tryz.results255]
      go_simp
    · repeat (first|(with_reducible exact Below.refl _ _)|(with_reducible assumption)|(with_reducible refine ba ?_)|(with_reducible refine bd ?_)|(with_reducible refine bdn ?_ _)|(with_reducible refine bset ?_ (by first|exact Nat.le_refl _|omega|(simp;done)|(simp;omega)))|(with_reducible refine bt ?_ (by with_reducible assumption)))
  · rw [decide_eq_true (by omega : -16000000 ≤ n)]
    by_cases h1 : n > 16000000
    · rw [decide_eq_false (by omega : ¬ n ≤ 16000000)]
      simp only [Bool.false_and, Bool.and_false, Bool.false_eq_true, if_false]
      go_enter Tryz.func255, Tryz.ntmps255
      go_wp2
      refine bodyPost_ret (v := .tuple #[.agg #[.int .i64 0, .int .i64 0, .int .i64 0], .int .i64 1]) ?_ rfl ⟨rfl, ?_⟩
      · simp only [results, Tryz.results255]
        go_simp
      · repeat (first|(with_reducible exact Below.refl _ _)|(with_reducible assumption)|(with_reducible refine ba ?_)|(with_reducible refine bd ?_)|(with_reducible refine bdn ?_ _)|(with_reducible refine bset ?_ (by first|exact Nat.le_refl _|omega|(simp;done)|(simp;omega)))|(with_reducible refine bt ?_ (by with_reducible assumption)))
    · rw [decide_eq_true (by omega : n ≤ 16000000)]
      have cd := date n (by omega) (by omega)
      have cr := Civ.Right (Yr.dY n) (Yr.dM n) (Yr.dD n)
      generalize Yr.dY n = Y at *
      generalize Yr.dM n = M at *
      generalize Yr.dD n = D at *
      cases hr : Civ.right Y M D
      all_goals
        rw [hr] at cr
        have Cd := Lib.hid cd
        have Cr := Lib.hid cr
        clear cd cr hr
        simp only [Bool.and_true, Bool.and_false, Bool.false_eq_true, if_false, if_true]
        go_enter Tryz.func255, Tryz.ntmps255
        go_wp2_with (first|(go_at_call 288;(with_reducible refine (Cd.out _).mono ?_);rintro e w1 ⟨rfl, hb1⟩;obtain ⟨hc1, hf1⟩ := bcell hb1;have hc1_0 := fun o => hc1 (w.heap.size) o (by first|assumption|omega|(simp;done)|(simp;omega));have hf1_0 := fun o => hf1 (w.heap.size) o (by first|assumption|omega|(simp;done)|(simp;omega));clear hc1 hf1;have hz1_0 : w.heap.size < w1.heap.size := (by first|exact sz1 hb1|exact sz2 hb1|exact sz3 hb1|(have := hb1.size;(try simp only [World.size_alloc, World.size_drew] at this);omega)))|(go_at_call 252;(with_reducible refine (Cr.out _).mono ?_);rintro e w2 ⟨rfl, hb2⟩;obtain ⟨hc2, hf2⟩ := bcell hb2;have hc2_0 := fun o => hc2 (w.heap.size) o (by first|assumption|omega|(simp;done)|(simp;omega));have hf2_0 := fun o => hf2 (w.heap.size) o (by first|assumption|omega|(simp;done)|(simp;omega));have hc2_1 := fun o => hc2 (w1.heap.size) o (by first|assumption|omega|(simp;done)|(simp;omega));have hf2_1 := fun o => hf2 (w1.heap.size) o (by first|assumption|omega|(simp;done)|(simp;omega));clear hc2 hf2;have hz2_0 : w.heap.size < w2.heap.size := (by first|exact sz1 hb2|exact sz2 hb2|exact sz3 hb2|(have := hb2.size;(try simp only [World.size_alloc] at this);omega));have hz2_1 : w1.heap.size < w2.heap.size := (by first|exact sz1 hb2|exact sz2 hb2|exact sz3 hb2|(have := hb2.size;(try simp only [World.size_alloc, World.size_drew] at this);omega))))
      · refine bodyPost_ret (v := .tuple #[.agg #[.int .i64 0, .int .i64 0, .int .i64 0], .int .i64 1]) ?_ rfl ⟨rfl, ?_⟩
        · simp only [results, Tryz.results255]
          go_simp
        · repeat (first|(with_reducible exact Below.refl _ _)|(with_reducible assumption)|(with_reducible refine ba ?_)|(with_reducible refine bd ?_)|(with_reducible refine bdn ?_ _)|(with_reducible refine bset ?_ (by first|exact Nat.le_refl _|omega|(simp;done)|(simp;omega)))|(with_reducible refine bt ?_ (by with_reducible assumption)))
      · refine bodyPost_ret (v := .tuple #[.agg #[.int .i64 Y, .int .i64 M, .int .i64 D], .int .i64 0]) ?_ rfl ⟨rfl, ?_⟩
        · simp only [results, Tryz.results255]
          go_simp
        · repeat (first|(with_reducible exact Below.refl _ _)|(with_reducible assumption)|(with_reducible refine ba ?_)|(with_reducible refine bd ?_)|(with_reducible refine bdn ?_ _)|(with_reducible refine bset ?_ (by first|exact Nat.le_refl _|omega|(simp;done)|(simp;omega)))|(with_reducible refine bt ?_ (by with_reducible assumption)))
theorem Split (t : Int) (h0 : -9223372036854775808 < t) (h1 : t ≤ 9223372036854775807) (w : World) :
    Calls Tryz.prog 254 #[.int .i64 t] w fun e w' => e = .returned (.tuple #[.int .i64 (t / 86400), .int .i64 (t % 86400)]) ∧ Below w.heap.size w w' := by
  have hd := Num.Div t 86400 h0 h1 (by omega) (by omega)
  have Hd := Lib.hid hd
  clear hd
  go_enter Tryz.func254, Tryz.ntmps254
  go_wp2_with (go_at_call 286;(with_reducible refine (Hd.out _).mono ?_);rintro e w1 ⟨rfl, hb1⟩;obtain ⟨hc1, hf1⟩ := bcell hb1)
  go_ret2
  exact ⟨rfl, hb1⟩
def stampOf (t : Int) : List Value := [.int .i64 (Yr.dY (t / 86400)), .int .i64 (Yr.dM (t / 86400)), .int .i64 (Yr.dD (t / 86400)), .int .i64 (t % 86400 / 3600), .int .i64 (t % 86400 % 3600 / 60), .int .i64 (t % 86400 % 60)]
set_option maxHeartbeats 1600000 in
theorem Of (t : Int) (h0 : -9223372036854775808 < t) (h1 : t ≤ 9223372036854775807) (w : World) :
    Calls Tryz.prog 199 #[.int .i64 t] w fun e w' => e = .returned (if okD (t / 86400) then .tuple #[.agg (stampOf t).toArray, .int .i64 0] else .tuple #[.agg #[.int .i64 0, .int .i64 0, .int .i64 0, .int .i64 0, .int .i64 0, .int .i64 0], .int .i64 1]) ∧ Below w.heap.size w w' := by
  have cs := Split t h0 h1
  have cd := Date (t / 86400)
  unfold stampOf
  have s0 := Int.emod_nonneg t (show (86400 : Int) ≠ 0 by decide)
  have s1 := Int.emod_lt_of_pos t (show (0 : Int) < 86400 by decide)
  generalize t / 86400 = d at *
  generalize t % 86400 = s at *
  generalize Yr.dY d = Y at *
  generalize Yr.dM d = M at *
  generalize Yr.dD d = D at *
  cases hk : okD d
  all_goals
    rw [hk] at cd
    simp only [Bool.false_eq_true, if_false, if_true] at cd ⊢
    have Cd := Lib.hid cd
    have Cs := Lib.hid cs
    clear cd cs hk
    go_enter Tryz.func199, Tryz.ntmps199
    go_wp2_with (first|(go_at_call 254;(with_reducible refine (Cs.out _).mono ?_);rintro e w1 ⟨rfl, hb1⟩;obtain ⟨hc1, hf1⟩ := bcell hb1;have hc1_0 := fun o => hc1 (w.heap.size) o (by first|assumption|omega|(simp;done)|(simp;omega));have hf1_0 := fun o => hf1 (w.heap.size) o (by first|assumption|omega|(simp;done)|(simp;omega));clear hc1 hf1;have hz1_0 : w.heap.size < w1.heap.size := (by first|exact sz1 hb1|exact sz2 hb1|exact sz3 hb1|(have := hb1.size;(try simp only [World.size_alloc, World.size_drew] at this);omega)))|(go_at_call 255;(with_reducible refine (Cd.out _).mono ?_);rintro e w2 ⟨rfl, hb2⟩;obtain ⟨hc2, hf2⟩ := bcell hb2;have hc2_0 := fun o => hc2 (w.heap.size) o (by first|assumption|omega|(simp;done)|(simp;omega));have hf2_0 := fun o => hf2 (w.heap.size) o (by first|assumption|omega|(simp;done)|(simp;omega));clear hc2 hf2;have hz2_0 : w.heap.size < w2.heap.size := (by first|exact sz1 hb2|exact sz2 hb2|exact sz3 hb2|(have := hb2.size;(try simp only [World.size_alloc, World.size_drew] at this);omega))))
  · refine bodyPost_ret (v := .tuple #[.agg #[.int .i64 0, .int .i64 0, .int .i64 0, .int .i64 0, .int .i64 0, .int .i64 0], .int .i64 1]) ?_ rfl ⟨rfl, ?_⟩
    · simp only [results, Tryz.results199]
      go_simp
    · repeat (first|(with_reducible exact Below.refl _ _)|(with_reducible assumption)|(with_reducible refine ba ?_)|(with_reducible refine bd ?_)|(with_reducible refine bdn ?_ _)|(with_reducible refine bset ?_ (by first|exact Nat.le_refl _|omega|(simp;done)|(simp;omega)))|(with_reducible refine bt ?_ (by with_reducible assumption)))
  · refine bodyPost_ret (v := .tuple #[.agg #[.int .i64 Y, .int .i64 M, .int .i64 D, .int .i64 (s / 3600), .int .i64 (s % 3600 / 60), .int .i64 (s % 60)], .int .i64 0]) ?_ rfl ⟨rfl, ?_⟩
    · simp only [results, Tryz.results199]
      go_simp
    · repeat (first|(with_reducible exact Below.refl _ _)|(with_reducible assumption)|(with_reducible refine ba ?_)|(with_reducible refine bd ?_)|(with_reducible refine bdn ?_ _)|(with_reducible refine bset ?_ (by first|exact Nat.le_refl _|omega|(simp;done)|(simp;omega)))|(with_reducible refine bt ?_ (by with_reducible assumption)))
end Stp
end Go.Proofs.YtcfmchpoclkpgaaGreatDoor
