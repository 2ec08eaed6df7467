import Derived.Test.YtkpjhgkmjcdobaaGreatDoorG6
import Derived.Test.YtkpjhgkmjcdobaaGreatDoorRRule
import Derived.Test.YtkpjhgkmjcdobaaGreatDoorG9
import Derived.Deep.AppendLies
/-
  noontideref03.Date, as the program runs it.
-/
namespace Go.Proofs.YtkpjhgkmjcdobaaGreatDoor
open Go.RowKit NB
namespace RCiv
theorem Ahead' (y a : Int) (h : Cal.ahead y = a) (h0 : -50000 ≤ y) (h1 : y ≤ 50000) (w : World) : Calls Tryz.prog 130 #[.int .i64 y] w fun e w' => e = .returned (.int .i64 a) ∧ w = w' := h ▸ Ahead y h0 h1 w
theorem left_eq (n : Int) : n - Cal.ahead (Yr.dY n) = Cal.cum (Yr.dY n) (Yr.dM n) + Yr.dD n - 1 := by
  have := Yr.days_of n
  unfold Cal.days at this
  omega
set_option maxHeartbeats 6400000 in
theorem Date (n : Int) (h0 : -9000000000000000000 ≤ n) (h1 : n ≤ 9000000000000000000) (w : World) : Calls Tryz.prog 180 #[.int .i64 n] w fun e w' =>
    e = .returned (if okN n then .tuple #[.agg #[.int .i64 (Yr.dY n), .int .i64 (Yr.dM n), .int .i64 (Yr.dD n)], .int .i64 0] else .tuple #[.agg #[.int .i64 0, .int .i64 0, .int .i64 0], .int .i64 1]) ∧ Below w.heap.size w w' := by
  have c1 := Ahead' (-40000) _ ahead_lo (by omega) (by omega)
  have c2 := Ahead' 40001 _ ahead_hi (by omega) (by omega)
  unfold okN
  rw [ahead_lo, ahead_hi]
  have C1 := Lib.hid c1
  have C2 := Lib.hid c2
  clear c1 c2
  by_cases g0 : n < -15329228
  · rw [decide_eq_false (by omega : ¬ -15329228 ≤ n)]
    simp only [Bool.false_and, Bool.false_eq_true, if_false]
    go_enter Tryz.func180, Tryz.ntmps180
    go_wp2_with (first | (go_at_call 130; (with_reducible refine (C1.out _).mono ?_); rintro e w' ⟨rfl, rfl⟩) | (go_at_call 130; (with_reducible refine (C2.out _).mono ?_); rintro e w' ⟨rfl, rfl⟩))
    refine bodyPost_ret (v := .tuple #[.agg #[.int .i64 0, .int .i64 0, .int .i64 0], .int .i64 1]) ?_ rfl ⟨rfl, ?_⟩
    · simp only [results, Tryz.results180]
      go_simp
    · repeat (first | (with_reducible exact Below.refl _ _) | (with_reducible assumption) | (with_reducible refine ba ?_) | (with_reducible refine bd ?_) | (with_reducible refine bdn ?_ _) | (with_reducible refine bset ?_ (by first | exact Nat.le_refl _ | omega | (simp; done) | (simp; omega))) | (with_reducible refine bt ?_ (by with_reducible assumption)))
  rw [decide_eq_true (by omega : -15329228 ≤ n)]
  by_cases g1 : 13890538 ≤ n
  · rw [decide_eq_false (by omega : ¬ n < 13890538)]
    simp only [Bool.and_false, Bool.false_eq_true, if_false]
    go_enter Tryz.func180, Tryz.ntmps180
    go_wp2_with (first | (go_at_call 130; (with_reducible refine (C1.out _).mono ?_); rintro e w' ⟨rfl, rfl⟩) | (go_at_call 130; (with_reducible refine (C2.out _).mono ?_); rintro e w' ⟨rfl, rfl⟩))
    refine bodyPost_ret (v := .tuple #[.agg #[.int .i64 0, .int .i64 0, .int .i64 0], .int .i64 1]) ?_ rfl ⟨rfl, ?_⟩
    · simp only [results, Tryz.results180]
      go_simp
    · repeat (first | (with_reducible exact Below.refl _ _) | (with_reducible assumption) | (with_reducible refine ba ?_) | (with_reducible refine bd ?_) | (with_reducible refine bdn ?_ _) | (with_reducible refine bset ?_ (by first | exact Nat.le_refl _ | omega | (simp; done) | (simp; omega))) | (with_reducible refine bt ?_ (by with_reducible assumption)))
  rw [decide_eq_true (by omega : n < 13890538)]
  simp only [Bool.and_self, if_true]
  obtain ⟨s0, s1⟩ := start_le n (by omega) (by omega)
  obtain ⟨y0, y1⟩ := dY_bd n (by omega) (by omega)
  have hv := Yr.valid n
  have m1 := hv.m1
  have m2 := hv.m2
  have d1 := hv.d1
  have d2 := hv.d2
  have hai := ahead_lt_iff n
  have hle := left_eq n
  clear hv
  generalize Yr.dY n = Y at *
  generalize Yr.dM n = M at *
  generalize Yr.dD n = D at *
  have d3 : D ≤ 31 := by have := Cal.len_le Y M; omega
  have cf := RNum.Floor n 366 (by omega) (by omega) (by omega) (by omega)
  have ab := Cal.ahead_bd Y (by omega) (by omega)
  have HA := Lib.hid hai
  have HL := Lib.hid hle
  have Cf := Lib.hid cf
  clear hai hle cf
  go_enter Tryz.func180, Tryz.ntmps180
  go_wp2_with (first | (go_at_call 130; (with_reducible refine (C1.out _).mono ?_); rintro e w' ⟨rfl, rfl⟩) | (go_at_call 130; (with_reducible refine (C2.out _).mono ?_); rintro e w' ⟨rfl, rfl⟩) | (go_at_call 181; (with_reducible refine (Cf.out _).mono ?_); rintro e w' ⟨rfl, rfl⟩))
  go_loop [4] (fun s => ∃ k : Int, s = .int .i64 k ∧ -42000 ≤ k ∧ k ≤ 40000) (fun s => (intOf s + 50000).toNat)
  case atStart => exact ⟨_, rfl, s0, s1⟩
  case round =>
    obtain ⟨k, rfl, k0, k1⟩ := hrel
    have ca := Ahead k (by omega) (by omega)
    have hk := HA.out k
    generalize Cal.ahead k = a at *
    have Ca := Lib.hid ca
    clear ca
    by_cases hgt : n < a
    · have hYk : Y < k := by omega
      clear hk
      go_wp2_with (go_at_call 130; (with_reducible refine (Ca.out _).mono ?_); rintro e w' ⟨rfl, rfl⟩)
      go_round
      case rel => exact ⟨k - 1, rfl, by omega, by omega⟩
      case measure => simp [intOf]; omega
    · have hkY : k ≤ Y := by omega
      clear hk
      go_wp2_with (go_at_call 130; (with_reducible refine (Ca.out _).mono ?_); rintro e w' ⟨rfl, rfl⟩)
      go_loop [4] (fun s => ∃ k : Int, s = .int .i64 k ∧ -42000 ≤ k ∧ k ≤ Y) (fun s => (Y - intOf s).toNat)
      case atStart => exact ⟨_, rfl, k0, hkY⟩
      case round =>
        obtain ⟨j, rfl, j0, j1⟩ := hrel
        have cb := Ahead (j + 1) (by omega) (by omega)
        have hj := HA.out (j + 1)
        generalize Cal.ahead (j + 1) = b at *
        have Cb := Lib.hid cb
        clear cb
        by_cases hle : b ≤ n
        · have hjY : j + 1 ≤ Y := hj.1 hle
          clear hj
          go_wp2_with (go_at_call 130; (with_reducible refine (Cb.out _).mono ?_); rintro e w' ⟨rfl, rfl⟩)
          go_round
          case rel => exact ⟨j + 1, rfl, by omega, by omega⟩
          case measure => simp [intOf]; omega
        · have hjY : j = Y := by omega
          clear hj
          subst hjY
          have cc := Ahead j (by omega) (by omega)
          have hl0 := HL.out
          have e1 := Cal.cum_bd j M m1 m2
          have e2 := Cal.lp_01 j
          have e3 := Cal.len_le j M
          obtain ⟨g, hg⟩ : ∃ g, g = n - Cal.ahead j := ⟨_, rfl⟩
          have hg2 : g = Cal.cum j M + D - 1 := by omega
          have g0 : 0 ≤ g ∧ g ≤ 400 := by omega
          have Hg2 := Lib.hid hg2
          generalize Cal.ahead j = c at *
          have Hg := Lib.hid hg
          have Cc := Lib.hid cc
          clear hg hg2 cc hl0 HL e1 e3
          go_wp2_with (first | (go_at_call 130; (with_reducible refine (Cb.out _).mono ?_); rintro e w' ⟨rfl, rfl⟩) | (go_at_call 130; (with_reducible refine (Cc.out _).mono ?_); rintro e w' ⟨rfl, rfl⟩))
          rw [← Hg.out]
          go_loopw [5, 6] (fun l i wr => ∃ k : Int, l = .int .i64 (g - Cal.cum j k) ∧ i = .int .i64 k ∧ 1 ≤ k ∧ k ≤ M ∧ Below w.heap.size w wr ∧ Box wr w.heap.size #[.int .i64 0, .int .i64 0, .int .i64 0] 114) (fun _ i _ => (M - intOf i).toNat)
          case atStart => exact ⟨1, by rw [cum_one, Int.sub_zero], rfl, by omega, m1, by repeat (first | (with_reducible exact Below.refl _ _) | (with_reducible assumption) | (with_reducible refine ba ?_) | (with_reducible refine bd ?_) | (with_reducible refine bdn ?_ _) | (with_reducible refine bset ?_ (by first | exact Nat.le_refl _ | omega | (simp; done) | (simp; omega))) | (with_reducible refine bt ?_ (by with_reducible assumption))), by repeat (first | (with_reducible assumption) | (with_reducible exact Box.new _ _ _) | (with_reducible refine Box.old ?_) | (with_reducible refine Box.drew ?_) | (with_reducible refine Box.drewN ?_ _) | (with_reducible refine Box.other ?_ (by first | assumption | omega | (simp; omega))) | (with_reducible refine Box.later ?_ (by with_reducible assumption)))⟩
          case round =>
            obtain ⟨i, rfl, rfl, i0, i1, hbel, hbx⟩ := hrel
            have u0 := hbx.lt
            have f0 := hbx.cell
            have f1 := hbx.free
            have cl := Len j i
            by_cases hlt : i < M
            · have hc1 := Cal.cum_succ j i i0 (by omega)
              have hc2 := Cal.cum_bd j i i0 (by omega)
              have hc3 := Cal.len_le j i
              have hc4 := Yr.cum_mono (y := j) i0 m2 hlt
              have q0 : Cal.len j i ≤ g - Cal.cum j i := by have := Hg2.out; omega
              have q1 : 0 ≤ Cal.cum j i ∧ Cal.cum j i ≤ 400 := by omega
              generalize Cal.len j i = ln at *
              generalize hcc : Cal.cum j i = ci at *
              have Hc1 := Lib.hid hc1
              have Cl := Lib.hid cl
              clear hc1 hc2 hc4 cl hcc
              go_wp2_with (go_at_call 85; (with_reducible refine (Cl.out _).mono ?_); rintro e wn ⟨rfl, hbn⟩; replace hbel := bt hbel (by first | exact hbn); replace hbx := Box.later hbx hbn; have u0 := hbx.lt; have f0 := hbx.cell; have f1 := hbx.free; clear hbn)
              go_roundw
              case rel => exact ⟨i + 1, by rw [Hc1.out]; go_num, rfl, by omega, by omega, by repeat (first | (with_reducible exact Below.refl _ _) | (with_reducible assumption) | (with_reducible refine ba ?_) | (with_reducible refine bd ?_) | (with_reducible refine bdn ?_ _) | (with_reducible refine bset ?_ (by first | exact Nat.le_refl _ | omega | (simp; done) | (simp; omega))) | (with_reducible refine bt ?_ (by with_reducible assumption))), by repeat (first | (with_reducible assumption) | (with_reducible exact Box.new _ _ _) | (with_reducible refine Box.old ?_) | (with_reducible refine Box.drew ?_) | (with_reducible refine Box.drewN ?_ _) | (with_reducible refine Box.other ?_ (by first | assumption | omega | (simp; omega))) | (with_reducible refine Box.later ?_ (by with_reducible assumption)))⟩
              case measure => simp [intOf]; omega
            · obtain rfl : i = M := by omega
              have hgc : g - Cal.cum j i = D - 1 := by have := Hg2.out; omega
              rw [hgc]
              clear hgc hlt
              generalize Cal.len j i = ln at *
              have Cl := Lib.hid cl
              clear cl
              go_wp2_with (go_at_call 85; (with_reducible refine (Cl.out _).mono ?_); rintro e w2 ⟨rfl, hb2⟩; obtain ⟨hc2, hf2⟩ := bcell hb2; have hc2_0 := fun o => hc2 (w.heap.size) o (by first | assumption | omega | (simp; done) | (simp; omega)); have hf2_0 := fun o => hf2 (w.heap.size) o (by first | assumption | omega | (simp; done) | (simp; omega)); clear hc2 hf2; have hz2_0 : w.heap.size < w2.heap.size := (by first | exact sz1 hb2 | exact sz2 hb2 | exact sz3 hb2 | (have := hb2.size; (try simp only [World.size_alloc, World.size_drew] at this); omega)))
              refine bodyPost_ret (v := .tuple #[.agg #[.int .i64 j, .int .i64 i, .int .i64 D], .int .i64 0]) ?_ rfl ⟨rfl, ?_⟩
              · simp only [results, Tryz.results180]
                go_simp
              · repeat (first | (with_reducible exact Below.refl _ _) | (with_reducible assumption) | (with_reducible refine ba ?_) | (with_reducible refine bd ?_) | (with_reducible refine bdn ?_ _) | (with_reducible refine bset ?_ (by first | exact Nat.le_refl _ | omega | (simp; done) | (simp; omega))) | (with_reducible refine bt ?_ (by with_reducible assumption)))
end RCiv
end Go.Proofs.YtkpjhgkmjcdobaaGreatDoor
/-
  noontideref25: near, Nom, Less and around, as the program runs them.
-/
namespace Go.Proofs.YtkpjhgkmjcdobaaGreatDoor
open Go.RowKit NB
namespace ROcc
theorem floorLeast (w : World) : Calls Tryz.prog 169 #[.int .i64 (-9223372036854775808), .int .i64 86400] w fun e w' => e = .returned (.tuple #[.int .i64 (-106751991167301), .int .i64 30592, .int .i64 0]) ∧ w = w' := by
  go_enter Tryz.func169, Tryz.ntmps169
  go_wp2
  go_ret3
  exact ⟨rfl, rfl⟩
theorem Floor (t : Int) (ht : I64 t) (w : World) : Calls Tryz.prog 181 #[.int .i64 t, .int .i64 86400] w fun e w' => e = .returned (.int .i64 (t / 86400)) ∧ w = w' := by
  by_cases h : -9223372036854775808 < t
  · exact RNum.Floor t 86400 h ht.2 (by omega) (by omega) w
  · have h0 := ht.1
    obtain rfl : t = -9223372036854775808 := by omega
    rw [show (-9223372036854775808 : Int) / 86400 = -106751991167301 by decide]
    have cd := floorLeast
    have Cd := Lib.hid cd
    clear cd h h0 ht
    go_enter Tryz.func181, Tryz.ntmps181
    go_wp2_with (go_at_call 169; (with_reducible refine (Cd.out _).mono ?_); rintro e w' ⟨rfl, rfl⟩)
    go_ret
    exact ⟨rfl, rfl⟩
set_option maxHeartbeats 1600000 in
theorem near (t : Int) (ht : I64 t) (w : World) : Calls Tryz.prog 152 #[.int .i64 t] w fun e w' => e = .returned (.int .i64 (Occ.nearA t)) ∧ Below w.heap.size w w' := by
  obtain ⟨t0, t1⟩ := ht
  have cf := Floor t ⟨t0, t1⟩
  have cd := RCiv.Date (t / 86400) (by omega) (by omega)
  obtain ⟨Y, hY⟩ : ∃ Y, Y = Occ.nearA t := ⟨_, rfl⟩
  rw [← hY]
  unfold Occ.nearA at hY
  cases hk : RCiv.okN (t / 86400)
  · have hn : ¬ (Cal.ahead (-40000) ≤ t / 86400 ∧ t / 86400 < Cal.ahead 40001) := by
      intro h
      unfold RCiv.okN at hk
      rw [decide_eq_true h.1, decide_eq_true h.2] at hk
      cases hk
    rw [if_neg hn] at hY
    rw [hk, if_neg (by decide)] at cd
    have Cf := Lib.hid cf
    have Cd := Lib.hid cd
    clear cf cd hk hn
    by_cases h0 : t < 0
    · rw [if_pos h0] at hY
      subst hY
      go_enter Tryz.func152, Tryz.ntmps152
      go_wp2_with (first | (go_at_call 181; (with_reducible refine (Cf.out _).mono ?_); rintro e w' ⟨rfl, rfl⟩) | (go_at_call 180; (with_reducible refine (Cd.out _).mono ?_); rintro e w1 ⟨rfl, hb1⟩; obtain ⟨hc1, hf1⟩ := bcell hb1))
      go_ret
      exact ⟨rfl, by repeat (first | (with_reducible exact Below.refl _ _) | (with_reducible assumption) | (with_reducible refine ba ?_) | (with_reducible refine bd ?_) | (with_reducible refine bdn ?_ _) | (with_reducible refine bset ?_ (by first | exact Nat.le_refl _ | omega | (simp; done) | (simp; omega))) | (with_reducible refine bt ?_ (by with_reducible assumption)))⟩
    · rw [if_neg h0] at hY
      subst hY
      go_enter Tryz.func152, Tryz.ntmps152
      go_wp2_with (first | (go_at_call 181; (with_reducible refine (Cf.out _).mono ?_); rintro e w' ⟨rfl, rfl⟩) | (go_at_call 180; (with_reducible refine (Cd.out _).mono ?_); rintro e w1 ⟨rfl, hb1⟩; obtain ⟨hc1, hf1⟩ := bcell hb1))
      go_ret
      exact ⟨rfl, by repeat (first | (with_reducible exact Below.refl _ _) | (with_reducible assumption) | (with_reducible refine ba ?_) | (with_reducible refine bd ?_) | (with_reducible refine bdn ?_ _) | (with_reducible refine bset ?_ (by first | exact Nat.le_refl _ | omega | (simp; done) | (simp; omega))) | (with_reducible refine bt ?_ (by with_reducible assumption)))⟩
  · have hn : Cal.ahead (-40000) ≤ t / 86400 ∧ t / 86400 < Cal.ahead 40001 := by
      unfold RCiv.okN at hk
      simpa using hk
    rw [if_pos hn] at hY
    rw [hk, if_pos rfl, ← hY] at cd
    have Cf := Lib.hid cf
    have Cd := Lib.hid cd
    clear cf cd hk hn hY
    go_enter Tryz.func152, Tryz.ntmps152
    go_wp2_with (first | (go_at_call 181; (with_reducible refine (Cf.out _).mono ?_); rintro e w' ⟨rfl, rfl⟩) | (go_at_call 180; (with_reducible refine (Cd.out _).mono ?_); rintro e w1 ⟨rfl, hb1⟩; obtain ⟨hc1, hf1⟩ := bcell hb1))
    go_ret
    exact ⟨rfl, by repeat (first | (with_reducible exact Below.refl _ _) | (with_reducible assumption) | (with_reducible refine ba ?_) | (with_reducible refine bd ?_) | (with_reducible refine bdn ?_ _) | (with_reducible refine bset ?_ (by first | exact Nat.le_refl _ | omega | (simp; done) | (simp; omega))) | (with_reducible refine bt ?_ (by with_reducible assumption)))⟩
set_option maxHeartbeats 1600000 in
theorem Nom (r : RuleV) (hr : r.Fit) (y : Int) (w : World) :
    Calls Tryz.prog 153 #[.agg r.cells.toArray, .int .i64 y] w fun e w' => e = .returned (.tuple #[.int .i64 (Nom.nomE r y).1, .int .i64 (Nom.nomE r y).2]) ∧ Below w.heap.size w w' := by
  have cr := RRule.Right r hr
  unfold Nom.nomE
  cases hR : Rul.right r
  · rw [hR] at cr
    simp only [Bool.false_eq_true, if_false]
    unfold RuleV.cells at *
    have Cr := Lib.hid cr
    clear cr hR
    go_enter Tryz.func153, Tryz.ntmps153
    go_wp2_with (go_at_call 151; (with_reducible refine (Cr.out _).mono ?_); rintro e w1 ⟨rfl, hb1⟩; obtain ⟨hc1, hf1⟩ := bcell hb1; have hc1_0 := fun o => hc1 (w.heap.size) o (by first | assumption | omega | (simp; done) | (simp; omega)); have hf1_0 := fun o => hf1 (w.heap.size) o (by first | assumption | omega | (simp; done) | (simp; omega)); clear hc1 hf1; have hz1_0 : w.heap.size < w1.heap.size := (by first | exact sz1 hb1 | exact sz2 hb1 | exact sz3 hb1 | (have := hb1.size; (try simp only [World.size_alloc, World.size_drew] at this); omega)))
    go_ret2
    exact ⟨rfl, by repeat (first | (with_reducible exact Below.refl _ _) | (with_reducible assumption) | (with_reducible refine ba ?_) | (with_reducible refine bd ?_) | (with_reducible refine bdn ?_ _) | (with_reducible refine bset ?_ (by first | exact Nat.le_refl _ | omega | (simp; done) | (simp; omega))) | (with_reducible refine bt ?_ (by with_reducible assumption)))⟩
  · rw [hR] at cr
    simp only [if_true]
    have hy := (Rul.right_spec hR).1
    by_cases hc1 : y < r.fr
    · rw [if_pos (.inl hc1)]
      unfold RuleV.cells at *
      have Cr := Lib.hid cr
      clear cr hR
      go_enter Tryz.func153, Tryz.ntmps153
      go_wp2_with (go_at_call 151; (with_reducible refine (Cr.out _).mono ?_); rintro e w1 ⟨rfl, hb1⟩; obtain ⟨hc1, hf1⟩ := bcell hb1; have hc1_0 := fun o => hc1 (w.heap.size) o (by first | assumption | omega | (simp; done) | (simp; omega)); have hf1_0 := fun o => hf1 (w.heap.size) o (by first | assumption | omega | (simp; done) | (simp; omega)); clear hc1 hf1; have hz1_0 : w.heap.size < w1.heap.size := (by first | exact sz1 hb1 | exact sz2 hb1 | exact sz3 hb1 | (have := hb1.size; (try simp only [World.size_alloc, World.size_drew] at this); omega)))
      go_ret2
      exact ⟨rfl, by repeat (first | (with_reducible exact Below.refl _ _) | (with_reducible assumption) | (with_reducible refine ba ?_) | (with_reducible refine bd ?_) | (with_reducible refine bdn ?_ _) | (with_reducible refine bset ?_ (by first | exact Nat.le_refl _ | omega | (simp; done) | (simp; omega))) | (with_reducible refine bt ?_ (by with_reducible assumption)))⟩
    · by_cases hc2 : r.to < y
      · rw [if_pos (.inr hc2)]
        unfold RuleV.cells at *
        have Cr := Lib.hid cr
        clear cr hR
        go_enter Tryz.func153, Tryz.ntmps153
        go_wp2_with (go_at_call 151; (with_reducible refine (Cr.out _).mono ?_); rintro e w1 ⟨rfl, hb1⟩; obtain ⟨hc1, hf1⟩ := bcell hb1; have hc1_0 := fun o => hc1 (w.heap.size) o (by first | assumption | omega | (simp; done) | (simp; omega)); have hf1_0 := fun o => hf1 (w.heap.size) o (by first | assumption | omega | (simp; done) | (simp; omega)); clear hc1 hf1; have hz1_0 : w.heap.size < w1.heap.size := (by first | exact sz1 hb1 | exact sz2 hb1 | exact sz3 hb1 | (have := hb1.size; (try simp only [World.size_alloc, World.size_drew] at this); omega)))
        go_ret2
        exact ⟨rfl, by repeat (first | (with_reducible exact Below.refl _ _) | (with_reducible assumption) | (with_reducible refine ba ?_) | (with_reducible refine bd ?_) | (with_reducible refine bdn ?_ _) | (with_reducible refine bset ?_ (by first | exact Nat.le_refl _ | omega | (simp; done) | (simp; omega))) | (with_reducible refine bt ?_ (by with_reducible assumption)))⟩
      · rw [if_neg (by omega)]
        have hf := (Rul.right_spec hR).2.1
        obtain ⟨s0, s1⟩ := (Rul.right_spec hR).2.2.1.2.2
        obtain ⟨d0, d1⟩ := Nom.day_bd hf (y := y) (by omega) (by omega)
        have cd := fun W => RDay.Days r.kind r.week r.day y r.month W
        rw [hf, if_pos rfl, if_pos ⟨by omega, by omega⟩] at cd
        unfold Occ.nomR
        generalize Day.dayI r.kind r.week r.day y r.month = d at *
        unfold RuleV.cells at *
        have Cr := Lib.hid cr
        have Cd := Lib.hid cd
        clear cr cd hR hf
        go_enter Tryz.func153, Tryz.ntmps153
        go_wp2_with (first | (go_at_call 151; (with_reducible refine (Cr.out _).mono ?_); rintro e w1 ⟨rfl, hb1⟩; obtain ⟨hc1, hf1⟩ := bcell hb1; have hc1_0 := fun o => hc1 (w.heap.size) o (by first | assumption | omega | (simp; done) | (simp; omega)); have hf1_0 := fun o => hf1 (w.heap.size) o (by first | assumption | omega | (simp; done) | (simp; omega)); clear hc1 hf1; have hz1_0 : w.heap.size < w1.heap.size := (by first | exact sz1 hb1 | exact sz2 hb1 | exact sz3 hb1 | (have := hb1.size; (try simp only [World.size_alloc, World.size_drew] at this); omega))) | (go_at_call 41; (with_reducible refine (Cd.out _).mono ?_); rintro e w2 ⟨rfl, hb2⟩; obtain ⟨hc2, hf2⟩ := bcell hb2; have hc2_0 := fun o => hc2 (w.heap.size) o (by first | assumption | omega | (simp; done) | (simp; omega)); have hf2_0 := fun o => hf2 (w.heap.size) o (by first | assumption | omega | (simp; done) | (simp; omega)); clear hc2 hf2; have hz2_0 : w.heap.size < w2.heap.size := (by first | exact sz1 hb2 | exact sz2 hb2 | exact sz3 hb2 | (have := hb2.size; (try simp only [World.size_alloc, World.size_drew] at this); omega))))
        go_ret2
        exact ⟨rfl, by repeat (first | (with_reducible exact Below.refl _ _) | (with_reducible assumption) | (with_reducible refine ba ?_) | (with_reducible refine bd ?_) | (with_reducible refine bdn ?_ _) | (with_reducible refine bset ?_ (by first | exact Nat.le_refl _ | omega | (simp; done) | (simp; omega))) | (with_reducible refine bt ?_ (by with_reducible assumption)))⟩
set_option maxHeartbeats 800000 in
theorem Less (a b : OccV) (w : World) : Calls Tryz.prog 111 #[.agg a.cells.toArray, .agg b.cells.toArray] w fun e w' => e = .returned (.bool (Occ.less a b)) ∧ Below w.heap.size w w' := by
  obtain ⟨x, hx⟩ : ∃ x, x = Occ.less a b := ⟨_, rfl⟩
  rw [← hx]
  unfold Occ.less at hx
  unfold OccV.cells
  rcases Int.lt_trichotomy a.nom b.nom with h | h | h
  · have e1 : decide (a.nom < b.nom) = true := by simpa using h
    rw [e1, Bool.true_or] at hx
    subst hx
    go_enter Tryz.func111, Tryz.ntmps111
    go_wp2
    try (go_quiet (fail); go_wp2)
    go_ret
    exact ⟨rfl, by repeat (first | (with_reducible exact Below.refl _ _) | (with_reducible assumption) | (with_reducible refine ba ?_) | (with_reducible refine bd ?_) | (with_reducible refine bdn ?_ _) | (with_reducible refine bset ?_ (by first | exact Nat.le_refl _ | omega | (simp; done) | (simp; omega))) | (with_reducible refine bt ?_ (by with_reducible assumption)))⟩
  · have e1 : decide (a.nom < b.nom) = false := by simp; omega
    have e2 : (a.nom == b.nom) = true := by simpa using h
    have e3 : decide (a.nom = b.nom) = true := by simpa using h
    rw [e1, e3, Bool.false_or, Bool.true_and] at hx
    subst hx
    have H := Lib.hid h
    clear h
    go_enter Tryz.func111, Tryz.ntmps111
    go_wp2
    try (go_quiet (fail); go_wp2)
    go_ret
    exact ⟨rfl, by repeat (first | (with_reducible exact Below.refl _ _) | (with_reducible assumption) | (with_reducible refine ba ?_) | (with_reducible refine bd ?_) | (with_reducible refine bdn ?_ _) | (with_reducible refine bset ?_ (by first | exact Nat.le_refl _ | omega | (simp; done) | (simp; omega))) | (with_reducible refine bt ?_ (by with_reducible assumption)))⟩
  · have e1 : decide (a.nom < b.nom) = false := by simp; omega
    have e2 : (a.nom == b.nom) = false := by simp; omega
    have e3 : decide (a.nom = b.nom) = false := by simp; omega
    rw [e1, e3, Bool.false_or, Bool.false_and] at hx
    subst hx
    go_enter Tryz.func111, Tryz.ntmps111
    go_wp2
    try (go_quiet (fail); go_wp2)
    go_ret
    exact ⟨rfl, by repeat (first | (with_reducible exact Below.refl _ _) | (with_reducible assumption) | (with_reducible refine ba ?_) | (with_reducible refine bd ?_) | (with_reducible refine bdn ?_ _) | (with_reducible refine bset ?_ (by first | exact Nat.le_refl _ | omega | (simp; done) | (simp; omega))) | (with_reducible refine bt ?_ (by with_reducible assumption)))⟩
end ROcc
end Go.Proofs.YtkpjhgkmjcdobaaGreatDoor
