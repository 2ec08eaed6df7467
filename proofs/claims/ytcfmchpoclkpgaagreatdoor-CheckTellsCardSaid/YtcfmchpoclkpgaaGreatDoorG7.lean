import Derived.Test.YtcfmchpoclkpgaaGreatDoorG5
import Derived.Test.YtcfmchpoclkpgaaGreatDoorG6
namespace Go.Proofs.YtcfmchpoclkpgaaGreatDoor
open Go.RowKit NB
namespace Nom
theorem ok_near (t : Int) : Stp.okD (Occ.clampI t (-1099511627776) 1099511627776 / 86400) = true := by
  have hc : -1099511627776 ≤ Occ.clampI t (-1099511627776) 1099511627776 ∧ Occ.clampI t (-1099511627776) 1099511627776 ≤ 1099511627776 := by
    unfold Occ.clampI;split
    · omega
    · split <;> omega
  generalize Occ.clampI t (-1099511627776) 1099511627776 = c at hc
  have hy := Yr.year_of (c / 86400)
  have hv := Yr.valid (c / 86400)
  have e1 : Cal.ahead (-40000) = -15329228 := by decide +kernel
  have e2 : Cal.ahead 40001 = 13890538 := by decide +kernel
  have g1 : -40000 ≤ Yr.dY (c / 86400) := by
    rcases (by omega : -40000 ≤ Yr.dY (c / 86400) ∨ Yr.dY (c / 86400) + 1 ≤ -40000) with h|h
    · exact h
    · have := Cal.ahead_mono h;omega
  have g2 : Yr.dY (c / 86400) ≤ 40000 := by
    rcases (by omega : Yr.dY (c / 86400) ≤ 40000 ∨ 40001 ≤ Yr.dY (c / 86400)) with h|h
    · exact h
    · have := Cal.ahead_mono h;omega
  unfold Stp.okD Civ.right
  simp only [Bool.and_eq_true, decide_eq_true_eq]
  exact ⟨⟨by omega, by omega⟩, ⟨⟨g1, g2⟩, hv.d1⟩, hv.d2⟩
set_option maxHeartbeats 1600000 in
theorem near (t : Int) (w : World) : Calls Tryz.prog 140 #[.int .i64 t] w fun e w' => e = .returned (.int .i64 (Occ.nearY t)) ∧ Below w.heap.size w w' := by
  have hok := ok_near t
  have ccl := fun W => Num.Clamp t (-1099511627776) 1099511627776 W
  have hc : -1099511627776 ≤ Occ.clampI t (-1099511627776) 1099511627776 ∧ Occ.clampI t (-1099511627776) 1099511627776 ≤ 1099511627776 := by
    unfold Occ.clampI;split
    · omega
    · split <;> omega
  unfold Occ.nearY
  rw [show (if t < -1099511627776 then -1099511627776 else if 1099511627776 < t then 1099511627776 else t) = Occ.clampI t (-1099511627776) 1099511627776 from rfl] at ccl
  generalize Occ.clampI t (-1099511627776) 1099511627776 = c at *
  have cof := fun W => Stp.Of c (by omega) (by omega) W
  rw [hok] at cof
  simp only [if_true] at cof
  unfold Stp.stampOf at cof
  have Ccl := Lib.hid ccl
  have Cof := Lib.hid cof
  clear ccl cof hok
  go_enter Tryz.func140, Tryz.ntmps140
  go_wp2_with (first|(go_at_call 137;(with_reducible refine (Ccl.out _).mono ?_);rintro e w' ⟨rfl, rfl⟩)|(go_at_call 199;(with_reducible refine (Cof.out _).mono ?_);rintro e w1 ⟨rfl, hb1⟩;obtain ⟨hc1, hf1⟩ := bcell hb1))
  go_ret
  exact ⟨rfl, by repeat (first|(with_reducible exact Below.refl _ _)|(with_reducible assumption)|(with_reducible refine ba ?_)|(with_reducible refine bd ?_)|(with_reducible refine bdn ?_ _)|(with_reducible refine bset ?_ (by first|exact Nat.le_refl _|omega|(simp;done)|(simp;omega)))|(with_reducible refine bt ?_ (by with_reducible assumption)))⟩
theorem day_bd {k wk d y m : Int} (h : Day.fits k wk d m = true) (h1 : -40000 ≤ y) (h2 : y ≤ 40000) : -20000000 ≤ Day.dayI k wk d y m ∧ Day.dayI k wk d y m ≤ 20000000 := by
  obtain ⟨m1, m2, _, _⟩ := Day.fits_spec h
  have := Occ.day_near (y := y) h
  have := Day.first_bd h1 h2 m1 m2
  omega
theorem nom_bd {r : RuleV} (hr : Rul.right r = true) {y : Int} (h1 : -40000 ≤ y) (h2 : y ≤ 40000) : -2000000000000 ≤ Occ.nomR r y ∧ Occ.nomR r y ≤ 2000000000000 := by
  have := day_bd (Rul.right_spec hr).2.1 h1 h2
  have := (Rul.right_spec hr).2.2.1
  unfold Occ.nomR
  omega
set_option maxHeartbeats 1600000 in
theorem nom (r : RuleV) (hr : Rul.right r = true) (y : Int) (h1 : -39999 ≤ y) (h2 : y ≤ 39999) (w : World) :
    Calls Tryz.prog 200 #[.agg r.cells.toArray, .int .i64 y] w fun e w' => e = .returned (.int .i64 (Occ.nomR r y)) ∧ Below w.heap.size w w' := by
  have hf := (Rul.right_spec hr).2.1
  obtain ⟨s0, s1⟩ := (Rul.right_spec hr).2.2.1.2.2
  obtain ⟨d0, d1⟩ := day_bd hf (y := y) (by omega) (by omega)
  have cd := fun W => Day.Days r.kind r.week r.day y r.month W
  rw [hf, if_pos rfl, if_pos ⟨h1, h2⟩] at cd
  unfold Occ.nomR
  generalize Day.dayI r.kind r.week r.day y r.month = d at *
  unfold RuleV.cells
  have Cd := Lib.hid cd
  clear cd hr hf
  go_enter Tryz.func200, Tryz.ntmps200
  go_wp2_with (go_at_call 174;(with_reducible refine (Cd.out _).mono ?_);rintro e w1 ⟨rfl, hb1⟩;obtain ⟨hc1, hf1⟩ := bcell hb1;have hc1_0 := fun o => hc1 (w.heap.size) o (by first|assumption|omega|(simp;done)|(simp;omega));have hf1_0 := fun o => hf1 (w.heap.size) o (by first|assumption|omega|(simp;done)|(simp;omega));clear hc1 hf1;have hz1_0 : w.heap.size < w1.heap.size := (by first|exact sz1 hb1|exact sz2 hb1|exact sz3 hb1|(have := hb1.size;(try simp only [World.size_alloc, World.size_drew] at this);omega)))
  go_ret
  exact ⟨rfl, by repeat (first|(with_reducible exact Below.refl _ _)|(with_reducible assumption)|(with_reducible refine ba ?_)|(with_reducible refine bd ?_)|(with_reducible refine bdn ?_ _)|(with_reducible refine bset ?_ (by first|exact Nat.le_refl _|omega|(simp;done)|(simp;omega)))|(with_reducible refine bt ?_ (by with_reducible assumption)))⟩
def nomE (r : RuleV) (y : Int) : Int × Int := if Rul.right r then (if y < r.fr ∨ r.to < y then (0, 1) else (Occ.nomR r y, 0)) else (0, 4)
set_option maxHeartbeats 1600000 in
theorem Nom (r : RuleV) (hr : r.Fit) (y : Int) (w : World) :
    Calls Tryz.prog 198 #[.agg r.cells.toArray, .int .i64 y] w fun e w' => e = .returned (.tuple #[.int .i64 (nomE r y).1, .int .i64 (nomE r y).2]) ∧ Below w.heap.size w w' := by
  have cr := Rul.Right r hr
  unfold nomE
  cases hR : Rul.right r
  · rw [hR] at cr
    simp only [Bool.false_eq_true, if_false]
    unfold RuleV.cells at *
    have Cr := Lib.hid cr
    clear cr hR
    go_enter Tryz.func198, Tryz.ntmps198
    go_wp2_with (go_at_call 76;(with_reducible refine (Cr.out _).mono ?_);rintro e w1 ⟨rfl, hb1⟩;obtain ⟨hc1, hf1⟩ := bcell hb1;have hc1_0 := fun o => hc1 (w.heap.size) o (by first|assumption|omega|(simp;done)|(simp;omega));have hf1_0 := fun o => hf1 (w.heap.size) o (by first|assumption|omega|(simp;done)|(simp;omega));clear hc1 hf1;have hz1_0 : w.heap.size < w1.heap.size := (by first|exact sz1 hb1|exact sz2 hb1|exact sz3 hb1|(have := hb1.size;(try simp only [World.size_alloc, World.size_drew] at this);omega)))
    go_ret2
    exact ⟨rfl, by repeat (first|(with_reducible exact Below.refl _ _)|(with_reducible assumption)|(with_reducible refine ba ?_)|(with_reducible refine bd ?_)|(with_reducible refine bdn ?_ _)|(with_reducible refine bset ?_ (by first|exact Nat.le_refl _|omega|(simp;done)|(simp;omega)))|(with_reducible refine bt ?_ (by with_reducible assumption)))⟩
  · rw [hR] at cr
    simp only [if_true]
    have hy := (Rul.right_spec hR).1
    by_cases hc1 : y < r.fr
    · rw [if_pos (.inl hc1)]
      unfold RuleV.cells at *
      have Cr := Lib.hid cr
      clear cr hR
      go_enter Tryz.func198, Tryz.ntmps198
      go_wp2_with (go_at_call 76;(with_reducible refine (Cr.out _).mono ?_);rintro e w1 ⟨rfl, hb1⟩;obtain ⟨hc1, hf1⟩ := bcell hb1;have hc1_0 := fun o => hc1 (w.heap.size) o (by first|assumption|omega|(simp;done)|(simp;omega));have hf1_0 := fun o => hf1 (w.heap.size) o (by first|assumption|omega|(simp;done)|(simp;omega));clear hc1 hf1;have hz1_0 : w.heap.size < w1.heap.size := (by first|exact sz1 hb1|exact sz2 hb1|exact sz3 hb1|(have := hb1.size;(try simp only [World.size_alloc, World.size_drew] at this);omega)))
      go_ret2
      exact ⟨rfl, by repeat (first|(with_reducible exact Below.refl _ _)|(with_reducible assumption)|(with_reducible refine ba ?_)|(with_reducible refine bd ?_)|(with_reducible refine bdn ?_ _)|(with_reducible refine bset ?_ (by first|exact Nat.le_refl _|omega|(simp;done)|(simp;omega)))|(with_reducible refine bt ?_ (by with_reducible assumption)))⟩
    · by_cases hc2 : r.to < y
      · rw [if_pos (.inr hc2)]
        unfold RuleV.cells at *
        have Cr := Lib.hid cr
        clear cr hR
        go_enter Tryz.func198, Tryz.ntmps198
        go_wp2_with (go_at_call 76;(with_reducible refine (Cr.out _).mono ?_);rintro e w1 ⟨rfl, hb1⟩;obtain ⟨hc1, hf1⟩ := bcell hb1;have hc1_0 := fun o => hc1 (w.heap.size) o (by first|assumption|omega|(simp;done)|(simp;omega));have hf1_0 := fun o => hf1 (w.heap.size) o (by first|assumption|omega|(simp;done)|(simp;omega));clear hc1 hf1;have hz1_0 : w.heap.size < w1.heap.size := (by first|exact sz1 hb1|exact sz2 hb1|exact sz3 hb1|(have := hb1.size;(try simp only [World.size_alloc, World.size_drew] at this);omega)))
        go_ret2
        exact ⟨rfl, by repeat (first|(with_reducible exact Below.refl _ _)|(with_reducible assumption)|(with_reducible refine ba ?_)|(with_reducible refine bd ?_)|(with_reducible refine bdn ?_ _)|(with_reducible refine bset ?_ (by first|exact Nat.le_refl _|omega|(simp;done)|(simp;omega)))|(with_reducible refine bt ?_ (by with_reducible assumption)))⟩
      · rw [if_neg (by omega)]
        have cn := nom r hR y (by omega) (by omega)
        unfold RuleV.cells at *
        have Cr := Lib.hid cr
        have Cn := Lib.hid cn
        clear cr cn hR
        go_enter Tryz.func198, Tryz.ntmps198
        go_wp2_with (first|(go_at_call 76;(with_reducible refine (Cr.out _).mono ?_);rintro e w1 ⟨rfl, hb1⟩;obtain ⟨hc1, hf1⟩ := bcell hb1;have hc1_0 := fun o => hc1 (w.heap.size) o (by first|assumption|omega|(simp;done)|(simp;omega));have hf1_0 := fun o => hf1 (w.heap.size) o (by first|assumption|omega|(simp;done)|(simp;omega));clear hc1 hf1;have hz1_0 : w.heap.size < w1.heap.size := (by first|exact sz1 hb1|exact sz2 hb1|exact sz3 hb1|(have := hb1.size;(try simp only [World.size_alloc, World.size_drew] at this);omega)))|(go_at_call 200;(with_reducible refine (Cn.out _).mono ?_);rintro e w2 ⟨rfl, hb2⟩;obtain ⟨hc2, hf2⟩ := bcell hb2))
        go_ret2
        exact ⟨rfl, by repeat (first|(with_reducible exact Below.refl _ _)|(with_reducible assumption)|(with_reducible refine ba ?_)|(with_reducible refine bd ?_)|(with_reducible refine bdn ?_ _)|(with_reducible refine bset ?_ (by first|exact Nat.le_refl _|omega|(simp;done)|(simp;omega)))|(with_reducible refine bt ?_ (by with_reducible assumption)))⟩
end Nom
end Go.Proofs.YtcfmchpoclkpgaaGreatDoor
namespace Go.Proofs.YtcfmchpoclkpgaaGreatDoor
open Go.RowKit NB
namespace Occ
variable {lt : OccV → OccV → Bool} {fr : OccV} {S T : OccV → Prop}
def scanY (lt : OccV → OccV → Bool) (fr : OccV) (r : RuleV) (i d : Int) : Int → Nat → Option OccV
  | _, 0 => none
  | y, n + 1 => if lt fr (occ r i y) then some (occ r i y) else scanY lt fr r i d (y + d) n
theorem best_scanY {r : RuleV} {i d : Int} (hm : ∀ (y : Int) (k : Nat), lt (occ r i (y + k * d)) (occ r i y) = false) :
    ∀ (n : Nat) (y : Int), Best lt fr (fun o => ∃ k : Nat, k < n ∧ o = occ r i (y + k * d)) (scanY lt fr r i d y n)
  | 0, y => by
    rintro o ⟨k, hk, _⟩
    omega
  | n + 1, y => by
    unfold scanY
    cases h : lt fr (occ r i y)
    · simp only [Bool.false_eq_true, if_false]
      have ih := best_scanY hm n (y + d)
      have hs : ∀ k : Nat, y + d + k * d = y + (k + 1 : Nat) * d := by
        intro k;rw [Int.natCast_add, Int.add_mul];omega
      cases hc : scanY lt fr r i d (y + d) n with
      | none =>
        rw [hc] at ih
        rintro o ⟨k, hk, rfl⟩
        cases k with
        | zero => simpa using h
        | succ k => exact ih _ ⟨k, by omega, by rw [hs]⟩
      | some a =>
        rw [hc] at ih
        obtain ⟨⟨k, hk, e⟩, h2, h3⟩ := ih
        refine ⟨⟨k + 1, by omega, by rw [e, hs]⟩, h2, ?_⟩
        rintro o ⟨k, hk, rfl⟩ hl
        cases k with
        | zero => rw [show y + ((0 : Nat) : Int) * d = y by simp, h] at hl;cases hl
        | succ k => exact h3 _ ⟨k, by omega, by rw [hs]⟩ hl
    · simp only [if_true]
      refine ⟨⟨0, by omega, by simp⟩, h, ?_⟩
      rintro o ⟨k, _, rfl⟩ _
      exact hm y k
def upY (fr : OccV) (r : RuleV) (i : Int) : Option OccV := scanY less fr r i 1 (max r.fr (nearY fr.nom - 2)) (r.to - max r.fr (nearY fr.nom - 2) + 1).toNat
def downY (fr : OccV) (r : RuleV) (i : Int) : Option OccV := scanY more fr r i (-1) (min r.to (nearY fr.nom + 2)) (min r.to (nearY fr.nom + 2) - r.fr + 1).toNat
theorem less_of_nom {a b : OccV} (h : a.nom < b.nom) : less a b = true := less_iff.2 (.inl h)
theorem less_same (r : RuleV) (hr : Rul.right r = true) (i y y' : Int) : less (occ r i y) (occ r i y') = decide (y < y') := by
  have h := nom_lt hr (y := y) (y' := y')
  have h' := nom_lt hr (y := y') (y' := y)
  rw [Bool.eq_iff_iff, less_iff, decide_eq_true_eq]
  show (nomR r y < nomR r y' ∨ nomR r y = nomR r y' ∧ i < i) ↔ _
  omega
theorem best_upY {r : RuleV} (hr : Rul.right r = true) (i : Int) (fr : OccV) : Best less fr (Of r i) (upY fr r i) := by
  have hn := near_nearY fr.nom
  refine Best.dom weak_less (best_scanY (fun y k => ?_) _ _) ?_ ?_
  · rw [less_same r hr];simp;omega
  · rintro o ⟨k, hk, rfl⟩
    exact ⟨by show r.fr ≤ _ + _ * (1 : Int);omega, by show _ + _ * (1 : Int) ≤ r.to;omega, rfl⟩
  · rintro o ⟨h1, h2, h3⟩ hl
    refine ⟨o, ?_, hl, weak_less.irr o⟩
    rw [h3] at hl
    have hl' := less_iff.1 hl
    have : max r.fr (nearY fr.nom - 2) ≤ o.year := by
      rcases (by omega : o.year < (nearY fr.nom - 2) ∨ (nearY fr.nom - 2) ≤ o.year) with hc|hc
      · have := hn.1 r hr o.year h1 h2 (by omega)
        have e : (occ r i o.year).nom = nomR r o.year := rfl
        omega
      · omega
    exact ⟨(o.year - max r.fr (nearY fr.nom - 2)).toNat, by omega, h3.trans (congrArg (occ r i) (by omega))⟩
theorem best_downY {r : RuleV} (hr : Rul.right r = true) (i : Int) (fr : OccV) : Best more fr (Of r i) (downY fr r i) := by
  have hn := near_nearY fr.nom
  refine Best.dom weak_more (best_scanY (fun y k => ?_) _ _) ?_ ?_
  · unfold more;rw [less_same r hr];simp;omega
  · rintro o ⟨k, hk, rfl⟩
    exact ⟨by show r.fr ≤ _ + _ * (-1 : Int);omega, by show _ + _ * (-1 : Int) ≤ r.to;omega, rfl⟩
  · rintro o ⟨h1, h2, h3⟩ hl
    refine ⟨o, ?_, hl, weak_more.irr o⟩
    rw [h3] at hl
    have hl' := less_iff.1 hl
    have : o.year ≤ min r.to (nearY fr.nom + 2) := by
      rcases (by omega : (nearY fr.nom + 2) < o.year ∨ o.year ≤ (nearY fr.nom + 2)) with hc|hc
      · have := hn.2 r hr o.year h1 h2 (by omega)
        have e : (occ r i o.year).nom = nomR r o.year := rfl
        omega
      · omega
    exact ⟨(min r.to (nearY fr.nom + 2) - o.year).toNat, by omega, h3.trans (congrArg (occ r i) (by omega))⟩
def lowA (r : RuleV) (Y : Int) : Int := if r.to < max r.fr (Y - 2) then r.to else if min r.to (Y + 2) < r.fr then r.fr else max r.fr (Y - 2)
def highA (r : RuleV) (Y : Int) : Int := if r.to < max r.fr (Y - 2) then r.to else if min r.to (Y + 2) < r.fr then r.fr else min r.to (Y + 2)
def foldA (lt : OccV → OccV → Bool) (fr : OccV) (r : RuleV) (i y : Int) (b : Option OccV) : Nat → Option OccV
  | 0 => b
  | k + 1 => merge lt (foldA lt fr r i y b k) (one lt fr (occ r i (y + k)))
theorem best_foldA (W : Weak lt) {b : Option OccV} (h : Best lt fr S b) (r : RuleV) (i y : Int) : ∀ k : Nat, Best lt fr (fun o => S o ∨ ∃ j : Nat, j < k ∧ o = occ r i (y + j)) (foldA lt fr r i y b k)
  | 0 => h.congr fun o => ⟨fun h => .inl h, fun h => h.elim id (by rintro ⟨j, hj, _⟩;omega)⟩
  | k + 1 => ((best_foldA W h r i y k).merge W (best_one W (occ r i (y + k)))).congr fun o => by
      constructor
      · rintro ((h|⟨j, hj, e⟩)|h)
        · exact .inl h
        · exact .inr ⟨j, by omega, e⟩
        · exact .inr ⟨k, by omega, h⟩
      · rintro (h|⟨j, hj, e⟩)
        · exact .inl (.inl h)
        · by_cases hjk : j = k
          · subst hjk;exact .inr e
          · exact .inl (.inr ⟨j, by omega, e⟩)
theorem low_high {r : RuleV} (hr : Rul.right r = true) (Y : Int) : r.fr ≤ lowA r Y ∧ lowA r Y ≤ highA r Y ∧ highA r Y ≤ r.to := by
  have := (Rul.right_spec hr).1
  unfold lowA highA
  split
  · omega
  · split <;> omega
theorem best_around_less {r : RuleV} (hr : Rul.right r = true) (i : Int) {fr : OccV} {Y : Int} (hn : Near fr.nom Y) {b : Option OccV} (h : Best less fr S b) :
    Best less fr (fun o => S o ∨ Of r i o) (foldA less fr r i (lowA r Y) b (highA r Y - lowA r Y + 1).toNat) := by
  obtain ⟨a1, a2, a3⟩ := low_high hr Y
  have hft := (Rul.right_spec hr).1
  refine Best.dom weak_less (best_foldA weak_less h r i _ _) ?_ ?_
  · rintro o (h|⟨j, hj, rfl⟩)
    · exact .inl h
    · exact .inr ⟨by show r.fr ≤ _ + (j : Int);omega, by show _ + (j : Int) ≤ r.to;omega, rfl⟩
  · rintro o (h|⟨h1, h2, h3⟩) hl
    · exact ⟨o, .inl h, hl, weak_less.irr o⟩
    · have hl0 := hl
      rw [h3] at hl
      have hl' := less_iff.1 hl
      have e : (occ r i o.year).nom = nomR r o.year := rfl
      have hge : lowA r Y ≤ o.year := by
        rcases (by omega : o.year < (Y - 2) ∨ (Y - 2) ≤ o.year) with hc|hc
        · have := hn.1 r hr o.year h1 h2 (by omega)
          omega
        · unfold lowA;split
          · omega
          · split <;> omega
      rcases (by omega : (highA r Y) < o.year ∨ o.year ≤ (highA r Y)) with hc|hc
      · refine ⟨occ r i (highA r Y), .inr ⟨(highA r Y - lowA r Y).toNat, by omega, by congr 1;omega⟩, ?_, ?_⟩
        · have hY : Y + 1 < highA r Y := by
            unfold highA at hc ⊢
            split
            · rename_i hx;rw [if_pos hx] at hc;omega
            · rename_i hx;rw [if_neg hx] at hc
              split
              · rename_i hy;rw [if_pos hy] at hc;omega
              · rename_i hy;rw [if_neg hy] at hc;omega
          exact less_of_nom (hn.2 r hr _ (by omega) (by omega) hY)
        · rw [h3, less_same r hr];simp;omega
      · exact ⟨o, .inr ⟨(o.year - lowA r Y).toNat, by omega, h3.trans (congrArg (occ r i) (by omega))⟩, hl0, weak_less.irr o⟩
theorem best_around_more {r : RuleV} (hr : Rul.right r = true) (i : Int) {fr : OccV} {Y : Int} (hn : Near fr.nom Y) {b : Option OccV} (h : Best more fr S b) :
    Best more fr (fun o => S o ∨ Of r i o) (foldA more fr r i (lowA r Y) b (highA r Y - lowA r Y + 1).toNat) := by
  obtain ⟨a1, a2, a3⟩ := low_high hr Y
  have hft := (Rul.right_spec hr).1
  refine Best.dom weak_more (best_foldA weak_more h r i _ _) ?_ ?_
  · rintro o (h|⟨j, hj, rfl⟩)
    · exact .inl h
    · exact .inr ⟨by show r.fr ≤ _ + (j : Int);omega, by show _ + (j : Int) ≤ r.to;omega, rfl⟩
  · rintro o (h|⟨h1, h2, h3⟩) hl
    · exact ⟨o, .inl h, hl, weak_more.irr o⟩
    · have hl0 := hl
      rw [h3] at hl
      have hl' := less_iff.1 hl
      have e : (occ r i o.year).nom = nomR r o.year := rfl
      have hge : o.year ≤ highA r Y := by
        rcases (by omega : (Y + 2) < o.year ∨ o.year ≤ (Y + 2)) with hc|hc
        · have := hn.2 r hr o.year h1 h2 (by omega)
          omega
        · unfold highA;split
          · omega
          · split <;> omega
      rcases (by omega : o.year < (lowA r Y) ∨ (lowA r Y) ≤ o.year) with hc|hc
      · refine ⟨occ r i (lowA r Y), .inr ⟨0, by omega, by congr 1;omega⟩, ?_, ?_⟩
        · have hY : lowA r Y < Y - 1 := by
            unfold lowA at hc ⊢
            split
            · rename_i hx;rw [if_pos hx] at hc;omega
            · rename_i hx;rw [if_neg hx] at hc
              split
              · rename_i hy;rw [if_pos hy] at hc;omega
              · rename_i hy;rw [if_neg hy] at hc;omega
          exact less_of_nom (hn.1 r hr _ (by omega) (by omega) hY)
        · unfold more;rw [h3, less_same r hr];simp;omega
      · exact ⟨o, .inr ⟨(o.year - lowA r Y).toNat, by omega, h3.trans (congrArg (occ r i) (by omega))⟩, hl0, weak_more.irr o⟩
def All (l : List RuleV) (name : ByteArray) (k : Nat) (o : OccV) : Prop := ∃ (i : Nat) (r : RuleV), i < k ∧ l[i]? = some r ∧ r.name = name ∧ Rul.right r = true ∧ Of r i o
def scan (lt : OccV → OccV → Bool) (cand : RuleV → Int → Option OccV) (l : List RuleV) (name : ByteArray) : Nat → Option OccV
  | 0 => none
  | k + 1 => merge lt (scan lt cand l name k) (match l[k]? with
    | some r => if r.name = name ∧ Rul.right r = true then cand r k else none
    | none => none)
def nextO (l : List RuleV) (name : ByteArray) (fr : OccV) : Option OccV := scan less (upY fr) l name l.length
def prevO (l : List RuleV) (name : ByteArray) (fr : OccV) : Option OccV := scan more (downY fr) l name l.length
theorem All_zero {l : List RuleV} {name : ByteArray} {o : OccV} : ¬ All l name 0 o := by rintro ⟨i, _, h, _⟩;omega
theorem All_succ {l : List RuleV} {name : ByteArray} {k : Nat} {r : RuleV} (hr : l[k]? = some r) (o : OccV) : All l name (k + 1) o ↔ (All l name k o ∨ (r.name = name ∧ Rul.right r = true ∧ Of r k o)) := by
  constructor
  · rintro ⟨i, r', h1, h2, h3⟩
    by_cases hik : i = k
    · subst hik
      rw [hr] at h2
      cases h2
      exact .inr h3
    · exact .inl ⟨i, r', by omega, h2, h3⟩
  · rintro (⟨i, r', h1, h2, h3⟩|h)
    · exact ⟨i, r', by omega, h2, h3⟩
    · exact ⟨k, r, by omega, hr, h⟩
theorem best_scan (W : Weak lt) {cand : RuleV → Int → Option OccV} (hc : ∀ r i, Rul.right r = true → Best lt fr (Of r i) (cand r i)) (l : List RuleV) (name : ByteArray) : ∀ k : Nat, k ≤ l.length → Best lt fr (All l name k) (scan lt cand l name k)
  | 0, _ => fun o ho => (All_zero ho).elim
  | k + 1, hk => by
    obtain ⟨r, hr⟩ : ∃ r, l[k]? = some r := ⟨l[k], by simp⟩
    have ih := best_scan W hc l name k (by omega)
    unfold scan
    rw [hr]
    simp only
    by_cases h : r.name = name ∧ Rul.right r = true
    · rw [if_pos h]
      refine (ih.merge W (hc r k h.2)).congr fun o => ?_
      rw [All_succ hr]
      exact ⟨fun h' => h'.imp id fun x => ⟨h.1, h.2, x⟩, fun h' => h'.imp id fun x => x.2.2⟩
    · rw [if_neg h]
      have : merge lt (scan lt cand l name k) none = scan lt cand l name k := by cases scan lt cand l name k <;> rfl
      rw [this]
      refine ih.congr fun o => ?_
      rw [All_succ hr]
      exact ⟨.inl, fun h' => h'.elim id fun x => (h ⟨x.1, x.2.1⟩).elim⟩
theorem best_next (l : List RuleV) (name : ByteArray) (fr : OccV) : Best less fr (All l name l.length) (nextO l name fr) :=
  best_scan weak_less (fun _ i h => best_upY h i fr) l name _ (Nat.le_refl _)
theorem best_prev (l : List RuleV) (name : ByteArray) (fr : OccV) : Best more fr (All l name l.length) (prevO l name fr) :=
  best_scan weak_more (fun _ i h => best_downY h i fr) l name _ (Nat.le_refl _)
theorem All_alike {l : List RuleV} {name : ByteArray} {k : Nat} {a b : OccV} (ha : All l name k a) (hb : All l name k b) (h1 : a.nom = b.nom) (h2 : a.rule = b.rule) : a = b := by
  obtain ⟨i, r, _, hr, _, hR, _, _, e⟩ := ha
  obtain ⟨j, s, _, hs, _, _, _, _, e'⟩ := hb
  have e1 : a.rule = i := by rw [e];rfl
  have e2 : b.rule = j := by rw [e'];rfl
  obtain rfl : i = j := by omega
  rw [hr] at hs
  cases hs
  have f1 : a.nom = nomR r a.year := by rw [e];rfl
  have f2 : b.nom = nomR r b.year := by rw [e'];rfl
  have : a.year = b.year := by
    have g1 := nom_lt hR (y := a.year) (y' := b.year)
    have g2 := nom_lt hR (y := b.year) (y' := a.year)
    omega
  cases a;cases b;simp_all
theorem Best.unique (W : Weak lt) {l : List RuleV} {name : ByteArray} {k : Nat} {a b : Option OccV} (ha : Best lt fr (All l name k) a) (hb : Best lt fr (All l name k) b) : a = b := by
  cases a with
  | none =>
    cases b with
    | none => rfl
    | some y =>
      have := ha y hb.1
      rw [hb.2.1] at this
      cases this
  | some x =>
    cases b with
    | none =>
      have := hb x ha.1
      rw [ha.2.1] at this
      cases this
    | some y =>
      obtain ⟨h1, h2⟩ := W.alike x y (hb.2.2 x ha.1 ha.2.1) (ha.2.2 y hb.1 hb.2.1)
      rw [All_alike ha.1 hb.1 h1 h2]
def scanA (lt : OccV → OccV → Bool) (fr : OccV) (Y : Int) (l : List RuleV) (name : ByteArray) : Nat → Option OccV
  | 0 => none
  | k + 1 => match l[k]? with
    | some r => if r.name = name ∧ Rul.right r = true then foldA lt fr r k (lowA r Y) (scanA lt fr Y l name k) (highA r Y - lowA r Y + 1).toNat else scanA lt fr Y l name k
    | none => scanA lt fr Y l name k
theorem best_scanA {Y : Int} (hc : ∀ (r : RuleV) (i : Int) (S : OccV → Prop) (b : Option OccV), Rul.right r = true → Best lt fr S b → Best lt fr (fun o => S o ∨ Of r i o) (foldA lt fr r i (lowA r Y) b (highA r Y - lowA r Y + 1).toNat)) (l : List RuleV) (name : ByteArray) : ∀ k : Nat, k ≤ l.length → Best lt fr (All l name k) (scanA lt fr Y l name k)
  | 0, _ => fun o ho => (All_zero ho).elim
  | k + 1, hk => by
    obtain ⟨r, hr⟩ : ∃ r, l[k]? = some r := ⟨l[k], by simp⟩
    have ih := best_scanA hc l name k (by omega)
    unfold scanA
    rw [hr]
    simp only
    by_cases h : r.name = name ∧ Rul.right r = true
    · rw [if_pos h]
      refine (hc r k _ _ h.2 ih).congr fun o => ?_
      rw [All_succ hr]
      exact ⟨fun h' => h'.imp id fun x => ⟨h.1, h.2, x⟩, fun h' => h'.imp id fun x => x.2.2⟩
    · rw [if_neg h]
      refine ih.congr fun o => ?_
      rw [All_succ hr]
      exact ⟨.inl, fun h' => h'.elim id fun x => (h ⟨x.1, x.2.1⟩).elim⟩
theorem next_eq {Y : Int} {fr : OccV} (hn : Near fr.nom Y) (l : List RuleV) (name : ByteArray) : scanA less fr Y l name l.length = nextO l name fr :=
  Best.unique weak_less (best_scanA (fun _ i _ _ h hb => best_around_less h i hn hb) l name _ (Nat.le_refl _)) (best_next l name fr)
theorem prev_eq {Y : Int} {fr : OccV} (hn : Near fr.nom Y) (l : List RuleV) (name : ByteArray) : scanA more fr Y l name l.length = prevO l name fr :=
  Best.unique weak_more (best_scanA (fun _ i _ _ h hb => best_around_more h i hn hb) l name _ (Nat.le_refl _)) (best_prev l name fr)
def nearA (t : Int) : Int := if Cal.ahead (-40000) ≤ t / 86400 ∧ t / 86400 < Cal.ahead 40001 then Yr.dY (t / 86400) else if t < 0 then -40000 else 40000
theorem near_nearA (t : Int) : Near t (nearA t) := by
  have e1 : Cal.ahead (-40000) = -15329228 := by decide +kernel
  have e2 : Cal.ahead 40001 = 13890538 := by decide +kernel
  unfold nearA
  split
  · have h := Yr.year_of (t / 86400)
    exact near_of (by omega) (by omega)
  · rename_i h
    rw [e1, e2] at h
    split
    · constructor
      · intro r hr y a b c
        have := (Rul.right_spec hr).1
        omega
      · intro r hr y a b c
        have := nom_range hr a b
        omega
    · constructor
      · intro r hr y a b c
        have := nom_range hr a b
        omega
      · intro r hr y a b c
        have := (Rul.right_spec hr).1
        omega
end Occ
end Go.Proofs.YtcfmchpoclkpgaaGreatDoor
