import Derived.Test.YtkpjhgkmjcdobaaGreatDoorRRule
import Derived.Test.YtkpjhgkmjcdobaaGreatDoorG12
import Derived.Test.YtkpjhgkmjcdobaaGreatDoorNom
import Derived.Test.YtkpjhgkmjcdobaaGreatDoorOccB
import Derived.Deep.AppendLies
/-
  noontideref25: near, Nom, Less and around, as the program runs them.
-/
namespace Go.Proofs.YtkpjhgkmjcdobaaGreatDoor
open Go.RowKit NB
namespace ROcc
theorem floorLeast (w : World) : Calls Tryz.prog 169 #[.int .i64 (-9223372036854775808), .int .i64 86400] w fun e w' => e = .returned (.tuple #[.int .i64 (-106751991167301), .int .i64 30592, .int .i64 0]) ∧ w = w' := by
  go_enter Tryz.func169, Tryz.ntmps169
  go_wp2
  go_ret3
  exact ⟨rfl, rfl⟩
theorem Floor (t : Int) (ht : I64 t) (w : World) : Calls Tryz.prog 181 #[.int .i64 t, .int .i64 86400] w fun e w' => e = .returned (.int .i64 (t / 86400)) ∧ w = w' := by
  by_cases h : -9223372036854775808 < t
  · exact RNum.Floor t 86400 h ht.2 (by omega) (by omega) w
  · have h0 := ht.1
    obtain rfl : t = -9223372036854775808 := by omega
    rw [show (-9223372036854775808 : Int) / 86400 = -106751991167301 by decide]
    have cd := floorLeast
    have Cd := Lib.hid cd
    clear cd h h0 ht
    go_enter Tryz.func181, Tryz.ntmps181
    go_wp2_with (go_at_call 169; (with_reducible refine (Cd.out _).mono ?_); rintro e w' ⟨rfl, rfl⟩)
    go_ret
    exact ⟨rfl, rfl⟩
set_option maxHeartbeats 1600000 in
theorem near (t : Int) (ht : I64 t) (w : World) : Calls Tryz.prog 152 #[.int .i64 t] w fun e w' => e = .returned (.int .i64 (Occ.nearA t)) ∧ Below w.heap.size w w' := by
  obtain ⟨t0, t1⟩ := ht
  have cf := Floor t ⟨t0, t1⟩
  have cd := RCiv.Date (t / 86400) (by omega) (by omega)
  obtain ⟨Y, hY⟩ : ∃ Y, Y = Occ.nearA t := ⟨_, rfl⟩
  rw [← hY]
  unfold Occ.nearA at hY
  cases hk : RCiv.okN (t / 86400)
  · have hn : ¬ (Cal.ahead (-40000) ≤ t / 86400 ∧ t / 86400 < Cal.ahead 40001) := by
      intro h
      unfold RCiv.okN at hk
      rw [decide_eq_true h.1, decide_eq_true h.2] at hk
      cases hk
    rw [if_neg hn] at hY
    rw [hk, if_neg (by decide)] at cd
    have Cf := Lib.hid cf
    have Cd := Lib.hid cd
    clear cf cd hk hn
    by_cases h0 : t < 0
    · rw [if_pos h0] at hY
      subst hY
      go_enter Tryz.func152, Tryz.ntmps152
      go_wp2_with (first | (go_at_call 181; (with_reducible refine (Cf.out _).mono ?_); rintro e w' ⟨rfl, rfl⟩) | (go_at_call 180; (with_reducible refine (Cd.out _).mono ?_); rintro e w1 ⟨rfl, hb1⟩; obtain ⟨hc1, hf1⟩ := bcell hb1))
      go_ret
      exact ⟨rfl, by repeat (first | (with_reducible exact Below.refl _ _) | (with_reducible assumption) | (with_reducible refine ba ?_) | (with_reducible refine bd ?_) | (with_reducible refine bdn ?_ _) | (with_reducible refine bset ?_ (by first | exact Nat.le_refl _ | omega | (simp; done) | (simp; omega))) | (with_reducible refine bt ?_ (by with_reducible assumption)))⟩
    · rw [if_neg h0] at hY
      subst hY
      go_enter Tryz.func152, Tryz.ntmps152
      go_wp2_with (first | (go_at_call 181; (with_reducible refine (Cf.out _).mono ?_); rintro e w' ⟨rfl, rfl⟩) | (go_at_call 180; (with_reducible refine (Cd.out _).mono ?_); rintro e w1 ⟨rfl, hb1⟩; obtain ⟨hc1, hf1⟩ := bcell hb1))
      go_ret
      exact ⟨rfl, by repeat (first | (with_reducible exact Below.refl _ _) | (with_reducible assumption) | (with_reducible refine ba ?_) | (with_reducible refine bd ?_) | (with_reducible refine bdn ?_ _) | (with_reducible refine bset ?_ (by first | exact Nat.le_refl _ | omega | (simp; done) | (simp; omega))) | (with_reducible refine bt ?_ (by with_reducible assumption)))⟩
  · have hn : Cal.ahead (-40000) ≤ t / 86400 ∧ t / 86400 < Cal.ahead 40001 := by
      unfold RCiv.okN at hk
      simpa using hk
    rw [if_pos hn] at hY
    rw [hk, if_pos rfl, ← hY] at cd
    have Cf := Lib.hid cf
    have Cd := Lib.hid cd
    clear cf cd hk hn hY
    go_enter Tryz.func152, Tryz.ntmps152
    go_wp2_with (first | (go_at_call 181; (with_reducible refine (Cf.out _).mono ?_); rintro e w' ⟨rfl, rfl⟩) | (go_at_call 180; (with_reducible refine (Cd.out _).mono ?_); rintro e w1 ⟨rfl, hb1⟩; obtain ⟨hc1, hf1⟩ := bcell hb1))
    go_ret
    exact ⟨rfl, by repeat (first | (with_reducible exact Below.refl _ _) | (with_reducible assumption) | (with_reducible refine ba ?_) | (with_reducible refine bd ?_) | (with_reducible refine bdn ?_ _) | (with_reducible refine bset ?_ (by first | exact Nat.le_refl _ | omega | (simp; done) | (simp; omega))) | (with_reducible refine bt ?_ (by with_reducible assumption)))⟩
set_option maxHeartbeats 1600000 in
theorem Nom (r : RuleV) (hr : r.Fit) (y : Int) (w : World) :
    Calls Tryz.prog 153 #[.agg r.cells.toArray, .int .i64 y] w fun e w' => e = .returned (.tuple #[.int .i64 (Nom.nomE r y).1, .int .i64 (Nom.nomE r y).2]) ∧ Below w.heap.size w w' := by
  have cr := RRule.Right r hr
  unfold Nom.nomE
  cases hR : Rul.right r
  · rw [hR] at cr
    simp only [Bool.false_eq_true, if_false]
    unfold RuleV.cells at *
    have Cr := Lib.hid cr
    clear cr hR
    go_enter Tryz.func153, Tryz.ntmps153
    go_wp2_with (go_at_call 151; (with_reducible refine (Cr.out _).mono ?_); rintro e w1 ⟨rfl, hb1⟩; obtain ⟨hc1, hf1⟩ := bcell hb1; have hc1_0 := fun o => hc1 (w.heap.size) o (by first | assumption | omega | (simp; done) | (simp; omega)); have hf1_0 := fun o => hf1 (w.heap.size) o (by first | assumption | omega | (simp; done) | (simp; omega)); clear hc1 hf1; have hz1_0 : w.heap.size < w1.heap.size := (by first | exact sz1 hb1 | exact sz2 hb1 | exact sz3 hb1 | (have := hb1.size; (try simp only [World.size_alloc, World.size_drew] at this); omega)))
    go_ret2
    exact ⟨rfl, by repeat (first | (with_reducible exact Below.refl _ _) | (with_reducible assumption) | (with_reducible refine ba ?_) | (with_reducible refine bd ?_) | (with_reducible refine bdn ?_ _) | (with_reducible refine bset ?_ (by first | exact Nat.le_refl _ | omega | (simp; done) | (simp; omega))) | (with_reducible refine bt ?_ (by with_reducible assumption)))⟩
  · rw [hR] at cr
    simp only [if_true]
    have hy := (Rul.right_spec hR).1
    by_cases hc1 : y < r.fr
    · rw [if_pos (.inl hc1)]
      unfold RuleV.cells at *
      have Cr := Lib.hid cr
      clear cr hR
      go_enter Tryz.func153, Tryz.ntmps153
      go_wp2_with (go_at_call 151; (with_reducible refine (Cr.out _).mono ?_); rintro e w1 ⟨rfl, hb1⟩; obtain ⟨hc1, hf1⟩ := bcell hb1; have hc1_0 := fun o => hc1 (w.heap.size) o (by first | assumption | omega | (simp; done) | (simp; omega)); have hf1_0 := fun o => hf1 (w.heap.size) o (by first | assumption | omega | (simp; done) | (simp; omega)); clear hc1 hf1; have hz1_0 : w.heap.size < w1.heap.size := (by first | exact sz1 hb1 | exact sz2 hb1 | exact sz3 hb1 | (have := hb1.size; (try simp only [World.size_alloc, World.size_drew] at this); omega)))
      go_ret2
      exact ⟨rfl, by repeat (first | (with_reducible exact Below.refl _ _) | (with_reducible assumption) | (with_reducible refine ba ?_) | (with_reducible refine bd ?_) | (with_reducible refine bdn ?_ _) | (with_reducible refine bset ?_ (by first | exact Nat.le_refl _ | omega | (simp; done) | (simp; omega))) | (with_reducible refine bt ?_ (by with_reducible assumption)))⟩
    · by_cases hc2 : r.to < y
      · rw [if_pos (.inr hc2)]
        unfold RuleV.cells at *
        have Cr := Lib.hid cr
        clear cr hR
        go_enter Tryz.func153, Tryz.ntmps153
        go_wp2_with (go_at_call 151; (with_reducible refine (Cr.out _).mono ?_); rintro e w1 ⟨rfl, hb1⟩; obtain ⟨hc1, hf1⟩ := bcell hb1; have hc1_0 := fun o => hc1 (w.heap.size) o (by first | assumption | omega | (simp; done) | (simp; omega)); have hf1_0 := fun o => hf1 (w.heap.size) o (by first | assumption | omega | (simp; done) | (simp; omega)); clear hc1 hf1; have hz1_0 : w.heap.size < w1.heap.size := (by first | exact sz1 hb1 | exact sz2 hb1 | exact sz3 hb1 | (have := hb1.size; (try simp only [World.size_alloc, World.size_drew] at this); omega)))
        go_ret2
        exact ⟨rfl, by repeat (first | (with_reducible exact Below.refl _ _) | (with_reducible assumption) | (with_reducible refine ba ?_) | (with_reducible refine bd ?_) | (with_reducible refine bdn ?_ _) | (with_reducible refine bset ?_ (by first | exact Nat.le_refl _ | omega | (simp; done) | (simp; omega))) | (with_reducible refine bt ?_ (by with_reducible assumption)))⟩
      · rw [if_neg (by omega)]
        have hf := (Rul.right_spec hR).2.1
        obtain ⟨s0, s1⟩ := (Rul.right_spec hR).2.2.1.2.2
        obtain ⟨d0, d1⟩ := Nom.day_bd hf (y := y) (by omega) (by omega)
        have cd := fun W => RDay.Days r.kind r.week r.day y r.month W
        rw [hf, if_pos rfl, if_pos ⟨by omega, by omega⟩] at cd
        unfold Occ.nomR
        generalize Day.dayI r.kind r.week r.day y r.month = d at *
        unfold RuleV.cells at *
        have Cr := Lib.hid cr
        have Cd := Lib.hid cd
        clear cr cd hR hf
        go_enter Tryz.func153, Tryz.ntmps153
        go_wp2_with (first | (go_at_call 151; (with_reducible refine (Cr.out _).mono ?_); rintro e w1 ⟨rfl, hb1⟩; obtain ⟨hc1, hf1⟩ := bcell hb1; have hc1_0 := fun o => hc1 (w.heap.size) o (by first | assumption | omega | (simp; done) | (simp; omega)); have hf1_0 := fun o => hf1 (w.heap.size) o (by first | assumption | omega | (simp; done) | (simp; omega)); clear hc1 hf1; have hz1_0 : w.heap.size < w1.heap.size := (by first | exact sz1 hb1 | exact sz2 hb1 | exact sz3 hb1 | (have := hb1.size; (try simp only [World.size_alloc, World.size_drew] at this); omega))) | (go_at_call 41; (with_reducible refine (Cd.out _).mono ?_); rintro e w2 ⟨rfl, hb2⟩; obtain ⟨hc2, hf2⟩ := bcell hb2; have hc2_0 := fun o => hc2 (w.heap.size) o (by first | assumption | omega | (simp; done) | (simp; omega)); have hf2_0 := fun o => hf2 (w.heap.size) o (by first | assumption | omega | (simp; done) | (simp; omega)); clear hc2 hf2; have hz2_0 : w.heap.size < w2.heap.size := (by first | exact sz1 hb2 | exact sz2 hb2 | exact sz3 hb2 | (have := hb2.size; (try simp only [World.size_alloc, World.size_drew] at this); omega))))
        go_ret2
        exact ⟨rfl, by repeat (first | (with_reducible exact Below.refl _ _) | (with_reducible assumption) | (with_reducible refine ba ?_) | (with_reducible refine bd ?_) | (with_reducible refine bdn ?_ _) | (with_reducible refine bset ?_ (by first | exact Nat.le_refl _ | omega | (simp; done) | (simp; omega))) | (with_reducible refine bt ?_ (by with_reducible assumption)))⟩
set_option maxHeartbeats 800000 in
theorem Less (a b : OccV) (w : World) : Calls Tryz.prog 111 #[.agg a.cells.toArray, .agg b.cells.toArray] w fun e w' => e = .returned (.bool (Occ.less a b)) ∧ Below w.heap.size w w' := by
  obtain ⟨x, hx⟩ : ∃ x, x = Occ.less a b := ⟨_, rfl⟩
  rw [← hx]
  unfold Occ.less at hx
  unfold OccV.cells
  rcases Int.lt_trichotomy a.nom b.nom with h | h | h
  · have e1 : decide (a.nom < b.nom) = true := by simpa using h
    rw [e1, Bool.true_or] at hx
    subst hx
    go_enter Tryz.func111, Tryz.ntmps111
    go_wp2
    try (go_quiet (fail); go_wp2)
    go_ret
    exact ⟨rfl, by repeat (first | (with_reducible exact Below.refl _ _) | (with_reducible assumption) | (with_reducible refine ba ?_) | (with_reducible refine bd ?_) | (with_reducible refine bdn ?_ _) | (with_reducible refine bset ?_ (by first | exact Nat.le_refl _ | omega | (simp; done) | (simp; omega))) | (with_reducible refine bt ?_ (by with_reducible assumption)))⟩
  · have e1 : decide (a.nom < b.nom) = false := by simp; omega
    have e2 : (a.nom == b.nom) = true := by simpa using h
    have e3 : decide (a.nom = b.nom) = true := by simpa using h
    rw [e1, e3, Bool.false_or, Bool.true_and] at hx
    subst hx
    have H := Lib.hid h
    clear h
    go_enter Tryz.func111, Tryz.ntmps111
    go_wp2
    try (go_quiet (fail); go_wp2)
    go_ret
    exact ⟨rfl, by repeat (first | (with_reducible exact Below.refl _ _) | (with_reducible assumption) | (with_reducible refine ba ?_) | (with_reducible refine bd ?_) | (with_reducible refine bdn ?_ _) | (with_reducible refine bset ?_ (by first | exact Nat.le_refl _ | omega | (simp; done) | (simp; omega))) | (with_reducible refine bt ?_ (by with_reducible assumption)))⟩
  · have e1 : decide (a.nom < b.nom) = false := by simp; omega
    have e2 : (a.nom == b.nom) = false := by simp; omega
    have e3 : decide (a.nom = b.nom) = false := by simp; omega
    rw [e1, e3, Bool.false_or, Bool.false_and] at hx
    subst hx
    go_enter Tryz.func111, Tryz.ntmps111
    go_wp2
    try (go_quiet (fail); go_wp2)
    go_ret
    exact ⟨rfl, by repeat (first | (with_reducible exact Below.refl _ _) | (with_reducible assumption) | (with_reducible refine ba ?_) | (with_reducible refine bd ?_) | (with_reducible refine bdn ?_ _) | (with_reducible refine bset ?_ (by first | exact Nat.le_refl _ | omega | (simp; done) | (simp; omega))) | (with_reducible refine bt ?_ (by with_reducible assumption)))⟩
end ROcc
end Go.Proofs.YtkpjhgkmjcdobaaGreatDoor
