import Derived.Test.YtcfmchpoclkpgaaGreatDoorStamp
import Derived.Test.YtcfmchpoclkpgaaGreatDoorG9
namespace Go.Proofs.YtcfmchpoclkpgaaGreatDoor
open Go.RowKit NB
namespace Nom
theorem ok_near (t : Int) : Stp.okD (Occ.clampI t (-1099511627776) 1099511627776 / 86400) = true := by
  have hc : -1099511627776 ≤ Occ.clampI t (-1099511627776) 1099511627776 ∧ Occ.clampI t (-1099511627776) 1099511627776 ≤ 1099511627776 := by
    unfold Occ.clampI;split
    · omega
    · split <;> omega
  generalize Occ.clampI t (-1099511627776) 1099511627776 = c at hc
  have hy := Yr.year_of (c / 86400)
  have hv := Yr.valid (c / 86400)
  have e1 : Cal.ahead (-40000) = -15329228 := by decide +kernel
  have e2 : Cal.ahead 40001 = 13890538 := by decide +kernel
  have g1 : -40000 ≤ Yr.dY (c / 86400) := by
    rcases (by omega : -40000 ≤ Yr.dY (c / 86400) ∨ Yr.dY (c / 86400) + 1 ≤ -40000) with h|h
    · exact h
    · have := Cal.ahead_mono h;omega
  have g2 : Yr.dY (c / 86400) ≤ 40000 := by
    rcases (by omega : Yr.dY (c / 86400) ≤ 40000 ∨ 40001 ≤ Yr.dY (c / 86400)) with h|h
    · exact h
    · have := Cal.ahead_mono h;omega
  unfold Stp.okD Civ.right
  simp only [Bool.and_eq_true, decide_eq_true_eq]
  exact ⟨⟨by omega, by omega⟩, ⟨⟨g1, g2⟩, hv.d1⟩, hv.d2⟩
set_option maxHeartbeats 1600000 in
theorem near (t : Int) (w : World) : Calls Tryz.prog 140 #[.int .i64 t] w fun e w' => e = .returned (.int .i64 (Occ.nearY t)) ∧ Below w.heap.size w w' := by
  have hok := ok_near t
  have ccl := fun W => Num.Clamp t (-1099511627776) 1099511627776 W
  have hc : -1099511627776 ≤ Occ.clampI t (-1099511627776) 1099511627776 ∧ Occ.clampI t (-1099511627776) 1099511627776 ≤ 1099511627776 := by
    unfold Occ.clampI;split
    · omega
    · split <;> omega
  unfold Occ.nearY
  rw [show (if t < -1099511627776 then -1099511627776 else if 1099511627776 < t then 1099511627776 else t) = Occ.clampI t (-1099511627776) 1099511627776 from rfl] at ccl
  generalize Occ.clampI t (-1099511627776) 1099511627776 = c at *
  have cof := fun W => Stp.Of c (by omega) (by omega) W
  rw [hok] at cof
  simp only [if_true] at cof
  unfold Stp.stampOf at cof
  have Ccl := Lib.hid ccl
  have Cof := Lib.hid cof
  clear ccl cof hok
  go_enter Tryz.func140, Tryz.ntmps140
  go_wp2_with (first|(go_at_call 137;(with_reducible refine (Ccl.out _).mono ?_);rintro e w' ⟨rfl, rfl⟩)|(go_at_call 199;(with_reducible refine (Cof.out _).mono ?_);rintro e w1 ⟨rfl, hb1⟩;obtain ⟨hc1, hf1⟩ := bcell hb1))
  go_ret
  exact ⟨rfl, by repeat (first|(with_reducible exact Below.refl _ _)|(with_reducible assumption)|(with_reducible refine ba ?_)|(with_reducible refine bd ?_)|(with_reducible refine bdn ?_ _)|(with_reducible refine bset ?_ (by first|exact Nat.le_refl _|omega|(simp;done)|(simp;omega)))|(with_reducible refine bt ?_ (by with_reducible assumption)))⟩
theorem day_bd {k wk d y m : Int} (h : Day.fits k wk d m = true) (h1 : -40000 ≤ y) (h2 : y ≤ 40000) : -20000000 ≤ Day.dayI k wk d y m ∧ Day.dayI k wk d y m ≤ 20000000 := by
  obtain ⟨m1, m2, _, _⟩ := Day.fits_spec h
  have := Occ.day_near (y := y) h
  have := Day.first_bd h1 h2 m1 m2
  omega
theorem nom_bd {r : RuleV} (hr : Rul.right r = true) {y : Int} (h1 : -40000 ≤ y) (h2 : y ≤ 40000) : -2000000000000 ≤ Occ.nomR r y ∧ Occ.nomR r y ≤ 2000000000000 := by
  have := day_bd (Rul.right_spec hr).2.1 h1 h2
  have := (Rul.right_spec hr).2.2.1
  unfold Occ.nomR
  omega
set_option maxHeartbeats 1600000 in
theorem nom (r : RuleV) (hr : Rul.right r = true) (y : Int) (h1 : -39999 ≤ y) (h2 : y ≤ 39999) (w : World) :
    Calls Tryz.prog 200 #[.agg r.cells.toArray, .int .i64 y] w fun e w' => e = .returned (.int .i64 (Occ.nomR r y)) ∧ Below w.heap.size w w' := by
  have hf := (Rul.right_spec hr).2.1
  obtain ⟨s0, s1⟩ := (Rul.right_spec hr).2.2.1.2.2
  obtain ⟨d0, d1⟩ := day_bd hf (y := y) (by omega) (by omega)
  have cd := fun W => Day.Days r.kind r.week r.day y r.month W
  rw [hf, if_pos rfl, if_pos ⟨h1, h2⟩] at cd
  unfold Occ.nomR
  generalize Day.dayI r.kind r.week r.day y r.month = d at *
  unfold RuleV.cells
  have Cd := Lib.hid cd
  clear cd hr hf
  go_enter Tryz.func200, Tryz.ntmps200
  go_wp2_with (go_at_call 174;(with_reducible refine (Cd.out _).mono ?_);rintro e w1 ⟨rfl, hb1⟩;obtain ⟨hc1, hf1⟩ := bcell hb1;have hc1_0 := fun o => hc1 (w.heap.size) o (by first|assumption|omega|(simp;done)|(simp;omega));have hf1_0 := fun o => hf1 (w.heap.size) o (by first|assumption|omega|(simp;done)|(simp;omega));clear hc1 hf1;have hz1_0 : w.heap.size < w1.heap.size := (by first|exact sz1 hb1|exact sz2 hb1|exact sz3 hb1|(have := hb1.size;(try simp only [World.size_alloc, World.size_drew] at this);omega)))
  go_ret
  exact ⟨rfl, by repeat (first|(with_reducible exact Below.refl _ _)|(with_reducible assumption)|(with_reducible refine ba ?_)|(with_reducible refine bd ?_)|(with_reducible refine bdn ?_ _)|(with_reducible refine bset ?_ (by first|exact Nat.le_refl _|omega|(simp;done)|(simp;omega)))|(with_reducible refine bt ?_ (by with_reducible assumption)))⟩
def nomE (r : RuleV) (y : Int) : Int × Int := if Rul.right r then (if y < r.fr ∨ r.to < y then (0, 1) else (Occ.nomR r y, 0)) else (0, 4)
set_option maxHeartbeats 1600000 in
theorem Nom (r : RuleV) (hr : r.Fit) (y : Int) (w : World) :
    Calls Tryz.prog 198 #[.agg r.cells.toArray, .int .i64 y] w fun e w' => e = .returned (.tuple #[.int .i64 (nomE r y).1, .int .i64 (nomE r y).2]) ∧ Below w.heap.size w w' := by
  have cr := Rul.Right r hr
  unfold nomE
  cases hR : Rul.right r
  · rw [hR] at cr
    simp only [Bool.false_eq_true, if_false]
    unfold RuleV.cells at *
    have Cr := Lib.hid cr
    clear cr hR
    go_enter Tryz.func198, Tryz.ntmps198
    go_wp2_with (go_at_call 76;(with_reducible refine (Cr.out _).mono ?_);rintro e w1 ⟨rfl, hb1⟩;obtain ⟨hc1, hf1⟩ := bcell hb1;have hc1_0 := fun o => hc1 (w.heap.size) o (by first|assumption|omega|(simp;done)|(simp;omega));have hf1_0 := fun o => hf1 (w.heap.size) o (by first|assumption|omega|(simp;done)|(simp;omega));clear hc1 hf1;have hz1_0 : w.heap.size < w1.heap.size := (by first|exact sz1 hb1|exact sz2 hb1|exact sz3 hb1|(have := hb1.size;(try simp only [World.size_alloc, World.size_drew] at this);omega)))
    go_ret2
    exact ⟨rfl, by repeat (first|(with_reducible exact Below.refl _ _)|(with_reducible assumption)|(with_reducible refine ba ?_)|(with_reducible refine bd ?_)|(with_reducible refine bdn ?_ _)|(with_reducible refine bset ?_ (by first|exact Nat.le_refl _|omega|(simp;done)|(simp;omega)))|(with_reducible refine bt ?_ (by with_reducible assumption)))⟩
  · rw [hR] at cr
    simp only [if_true]
    have hy := (Rul.right_spec hR).1
    by_cases hc1 : y < r.fr
    · rw [if_pos (.inl hc1)]
      unfold RuleV.cells at *
      have Cr := Lib.hid cr
      clear cr hR
      go_enter Tryz.func198, Tryz.ntmps198
      go_wp2_with (go_at_call 76;(with_reducible refine (Cr.out _).mono ?_);rintro e w1 ⟨rfl, hb1⟩;obtain ⟨hc1, hf1⟩ := bcell hb1;have hc1_0 := fun o => hc1 (w.heap.size) o (by first|assumption|omega|(simp;done)|(simp;omega));have hf1_0 := fun o => hf1 (w.heap.size) o (by first|assumption|omega|(simp;done)|(simp;omega));clear hc1 hf1;have hz1_0 : w.heap.size < w1.heap.size := (by first|exact sz1 hb1|exact sz2 hb1|exact sz3 hb1|(have := hb1.size;(try simp only [World.size_alloc, World.size_drew] at this);omega)))
      go_ret2
      exact ⟨rfl, by repeat (first|(with_reducible exact Below.refl _ _)|(with_reducible assumption)|(with_reducible refine ba ?_)|(with_reducible refine bd ?_)|(with_reducible refine bdn ?_ _)|(with_reducible refine bset ?_ (by first|exact Nat.le_refl _|omega|(simp;done)|(simp;omega)))|(with_reducible refine bt ?_ (by with_reducible assumption)))⟩
    · by_cases hc2 : r.to < y
      · rw [if_pos (.inr hc2)]
        unfold RuleV.cells at *
        have Cr := Lib.hid cr
        clear cr hR
        go_enter Tryz.func198, Tryz.ntmps198
        go_wp2_with (go_at_call 76;(with_reducible refine (Cr.out _).mono ?_);rintro e w1 ⟨rfl, hb1⟩;obtain ⟨hc1, hf1⟩ := bcell hb1;have hc1_0 := fun o => hc1 (w.heap.size) o (by first|assumption|omega|(simp;done)|(simp;omega));have hf1_0 := fun o => hf1 (w.heap.size) o (by first|assumption|omega|(simp;done)|(simp;omega));clear hc1 hf1;have hz1_0 : w.heap.size < w1.heap.size := (by first|exact sz1 hb1|exact sz2 hb1|exact sz3 hb1|(have := hb1.size;(try simp only [World.size_alloc, World.size_drew] at this);omega)))
        go_ret2
        exact ⟨rfl, by repeat (first|(with_reducible exact Below.refl _ _)|(with_reducible assumption)|(with_reducible refine ba ?_)|(with_reducible refine bd ?_)|(with_reducible refine bdn ?_ _)|(with_reducible refine bset ?_ (by first|exact Nat.le_refl _|omega|(simp;done)|(simp;omega)))|(with_reducible refine bt ?_ (by with_reducible assumption)))⟩
      · rw [if_neg (by omega)]
        have cn := nom r hR y (by omega) (by omega)
        unfold RuleV.cells at *
        have Cr := Lib.hid cr
        have Cn := Lib.hid cn
        clear cr cn hR
        go_enter Tryz.func198, Tryz.ntmps198
        go_wp2_with (first|(go_at_call 76;(with_reducible refine (Cr.out _).mono ?_);rintro e w1 ⟨rfl, hb1⟩;obtain ⟨hc1, hf1⟩ := bcell hb1;have hc1_0 := fun o => hc1 (w.heap.size) o (by first|assumption|omega|(simp;done)|(simp;omega));have hf1_0 := fun o => hf1 (w.heap.size) o (by first|assumption|omega|(simp;done)|(simp;omega));clear hc1 hf1;have hz1_0 : w.heap.size < w1.heap.size := (by first|exact sz1 hb1|exact sz2 hb1|exact sz3 hb1|(have := hb1.size;(try simp only [World.size_alloc, World.size_drew] at this);omega)))|(go_at_call 200;(with_reducible refine (Cn.out _).mono ?_);rintro e w2 ⟨rfl, hb2⟩;obtain ⟨hc2, hf2⟩ := bcell hb2))
        go_ret2
        exact ⟨rfl, by repeat (first|(with_reducible exact Below.refl _ _)|(with_reducible assumption)|(with_reducible refine ba ?_)|(with_reducible refine bd ?_)|(with_reducible refine bdn ?_ _)|(with_reducible refine bset ?_ (by first|exact Nat.le_refl _|omega|(simp;done)|(simp;omega)))|(with_reducible refine bt ?_ (by with_reducible assumption)))⟩
end Nom
end Go.Proofs.YtcfmchpoclkpgaaGreatDoor
