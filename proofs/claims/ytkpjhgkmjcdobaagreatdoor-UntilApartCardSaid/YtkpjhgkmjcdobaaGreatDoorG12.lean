import Derived.Test.YtkpjhgkmjcdobaaGreatDoorG7
import Derived.Test.YtkpjhgkmjcdobaaGreatDoorRFormat
import Derived.Test.YtkpjhgkmjcdobaaGreatDoorRCivB
/-
  noontideref22: End and Right, as the program runs them.
-/
namespace Go.Proofs.YtkpjhgkmjcdobaaGreatDoor
open Go.RowKit NB Er
namespace REr
set_option maxHeartbeats 1600000 in
theorem End (u : UntilV) (w : World) : Calls Tryz.prog 40 #[.agg u.cells.toArray] w fun e w' => e = .returned (.bool (endB u)) ∧ Below w.heap.size w w' := by
  have cf := fun W => RDay.Fits u.kind u.week u.day u.month W
  have cc := fun W => RRule.ClockRight u.sec u.base W
  unfold endB UntilV.cells
  cases hh : u.has
  · rw [if_neg (by decide)]
    clear cf cc hh
    unfold noneB
    go_enter Tryz.func40, Tryz.ntmps40
    go_wp2
    all_goals
      go_ret
      exact ⟨ret_bool (by simp [*]), by repeat (first | (with_reducible exact Below.refl _ _) | (with_reducible assumption) | (with_reducible refine ba ?_) | (with_reducible refine bd ?_) | (with_reducible refine bdn ?_ _) | (with_reducible refine bset ?_ (by first | exact Nat.le_refl _ | omega | (simp; done) | (simp; omega))) | (with_reducible refine bt ?_ (by with_reducible assumption)))⟩
  · rw [if_pos rfl]
    unfold yearB
    generalize Day.fits u.kind u.week u.day u.month = g2 at *
    generalize Rul.clockRight u.sec u.base = g3 at *
    have Cf := Lib.hid cf
    have Cc := Lib.hid cc
    clear cf cc hh
    go_enter Tryz.func40, Tryz.ntmps40
    go_wp2_with (first
      | (go_at_call 82; (with_reducible refine (Cf.out _).mono ?_); rintro e w1 ⟨rfl, hb1⟩; obtain ⟨hc1, hf1⟩ := bcell hb1; have hc1_0 := fun o => hc1 (w.heap.size) o (by first | assumption | omega | (simp; done) | (simp; omega)); have hf1_0 := fun o => hf1 (w.heap.size) o (by first | assumption | omega | (simp; done) | (simp; omega)); clear hc1 hf1; have hz1_0 : w.heap.size < w1.heap.size := (by first | exact sz1 hb1 | exact sz2 hb1 | exact sz3 hb1 | (have := hb1.size; (try simp only [World.size_alloc, World.size_drew] at this); omega)))
      | (go_at_call 83; (with_reducible refine (Cc.out _).mono ?_); rintro e w2 ⟨rfl, hb2⟩; obtain ⟨hc2, hf2⟩ := bcell hb2; have hc2_0 := fun o => hc2 (w.heap.size) o (by first | assumption | omega | (simp; done) | (simp; omega)); have hf2_0 := fun o => hf2 (w.heap.size) o (by first | assumption | omega | (simp; done) | (simp; omega)); clear hc2 hf2; have hz2_0 : w.heap.size < w2.heap.size := (by first | exact sz1 hb2 | exact sz2 hb2 | exact sz3 hb2 | (have := hb2.size; (try simp only [World.size_alloc, World.size_drew] at this); omega))))
    all_goals
      go_ret
      exact ⟨ret_bool (by simp [*]; try (intros; omega)), by repeat (first | (with_reducible exact Below.refl _ _) | (with_reducible assumption) | (with_reducible refine ba ?_) | (with_reducible refine bd ?_) | (with_reducible refine bdn ?_ _) | (with_reducible refine bset ?_ (by first | exact Nat.le_refl _ | omega | (simp; done) | (simp; omega))) | (with_reducible refine bt ?_ (by with_reducible assumption)))⟩
set_option maxRecDepth 100000 in
set_option maxHeartbeats 6400000 in
theorem Right (e : EraV) (he : e.Fit) (w : World) : Calls Tryz.prog 43 #[.agg e.cells.toArray] w fun x w' => x = .returned (.bool (rightB e)) ∧ Below w.heap.size w w' := by
  have c3 := fun W => RFmt.Check e.format he.f W
  have c4 := fun W => End e.u W
  have c5 := fun W => RRule.Name e.rules he.r W
  obtain ⟨off, kind, save, rules, format, u⟩ := e
  simp only at c3 c4 c5
  have hoff : I64 off := he.off
  have hsave : I64 save := he.save
  unfold rightB EraV.cells
  unfold UntilV.cells at c4
  simp only
  generalize Fmt.checkE format = k1 at *
  generalize endB u = g3 at *
  generalize Nam.nameE rules = k2 at *
  obtain ⟨ne, hne⟩ : ∃ x, x = rules.toList.isEmpty := ⟨_, rfl⟩
  rw [← hne]
  have es : rules.toList.isEmpty = ne := hne.symm
  obtain ⟨g1, hg1⟩ : ∃ x, x = (decide (-54000 ≤ off) && decide (off ≤ 54000)) := ⟨_, rfl⟩
  obtain ⟨g2, hg2⟩ : ∃ x, x = (decide (-10800 ≤ save) && decide (save ≤ 10800)) := ⟨_, rfl⟩
  rw [← hg1, ← hg2]
  obtain ⟨pe, hpe⟩ : ∃ x : Bool, x = (if g1 = true ∧ k1 = 0 ∧ g3 = true then (if kind = 0 then decide (save = 0) && ne else if kind = 1 then g2 && ne else if kind = 2 then decide (save = 0) && decide (k2 = 0) else false) else false) := ⟨_, rfl⟩
  rw [← hpe]
  have Hpe := Lib.hid hpe
  have C3 := Lib.hid c3
  have C4 := Lib.hid c4
  have C5 := Lib.hid c5
  clear hpe c3 c4 c5 hne he
  have hk : kind = 0 ∨ kind = 1 ∨ kind = 2 ∨ (¬ kind = 0 ∧ ¬ kind = 1 ∧ ¬ kind = 2) := by omega
  have ho : off < -54000 ∨ 54000 < off ∨ (-54000 ≤ off ∧ off ≤ 54000) := by omega
  have hs : save < -10800 ∨ 10800 < save ∨ (-10800 ≤ save ∧ save ≤ 10800) := by omega
  rcases hk with rfl | rfl | rfl | ⟨k0, k1', k2'⟩ <;> rcases ho with ho | ho | ho <;> rcases hs with hs | hs | hs
  all_goals
    first
      | have eg1 : g1 = true := by rw [hg1]; simp; omega
      | have eg1 : g1 = false := by rw [hg1]; simp; omega
    first
      | have eg2 : g2 = true := by rw [hg2]; simp; omega
      | have eg2 : g2 = false := by rw [hg2]; simp; omega
    clear hg1 hg2
    go_enter Tryz.func43, Tryz.ntmps43
    go_wp2_with (first
      | (go_at_call 90; (with_reducible refine (C3.out _).mono ?_); rintro e w' ⟨rfl, rfl⟩)
      | (go_at_call 40; (with_reducible refine (C4.out _).mono ?_); rintro e w2 ⟨rfl, hb2⟩; obtain ⟨hc2, hf2⟩ := bcell hb2; have hc2_0 := fun o => hc2 (w.heap.size) o (by first | assumption | omega | (simp; done) | (simp; omega)); have hf2_0 := fun o => hf2 (w.heap.size) o (by first | assumption | omega | (simp; done) | (simp; omega)); clear hc2 hf2; have hz2_0 : w.heap.size < w2.heap.size := (by first | exact sz1 hb2 | exact sz2 hb2 | exact sz3 hb2 | (have := hb2.size; (try simp only [World.size_alloc, World.size_drew] at this); omega)))
      | (go_at_call 91; (with_reducible refine (C5.out _).mono ?_); rintro e w' ⟨rfl, rfl⟩))
  all_goals
    go_ret
    have hpe := Hpe.out
    simp only [*, if_true, if_false, true_and, false_and, and_false, Bool.false_eq_true, Int.reduceEq, eq_self, decide_true, decide_false, Bool.true_and, Bool.false_and] at hpe
    refine ⟨ret_bool ?_, by repeat (first | (with_reducible exact Below.refl _ _) | (with_reducible assumption) | (with_reducible refine ba ?_) | (with_reducible refine bd ?_) | (with_reducible refine bdn ?_ _) | (with_reducible refine bset ?_ (by first | exact Nat.le_refl _ | omega | (simp; done) | (simp; omega))) | (with_reducible refine bt ?_ (by with_reducible assumption)))⟩
    first
      | (rw [hpe]; done)
      | (rw [hpe]; first
        | rfl
        | (simp [*]; done)
        | (rw [Bool.eq_iff_iff]; simp [*]; done)
        | (rw [Bool.eq_iff_iff]; simp [*]; omega)
        | (cases g3
           · first
             | (exfalso; rename_i hx; exact absurd hx.2 (by decide))
             | rfl
             | (simp [*]; done)
           · first
             | rfl
             | (simp [*]; done)
             | (exfalso; simp only [Bool.not_true, Bool.false_eq_true, or_false] at *; omega)))
end REr
end Go.Proofs.YtkpjhgkmjcdobaaGreatDoor
/-
  noontideref03.Date, as the program runs it.
-/
namespace Go.Proofs.YtkpjhgkmjcdobaaGreatDoor
open Go.RowKit NB
namespace RCiv
theorem Ahead' (y a : Int) (h : Cal.ahead y = a) (h0 : -50000 ≤ y) (h1 : y ≤ 50000) (w : World) : Calls Tryz.prog 130 #[.int .i64 y] w fun e w' => e = .returned (.int .i64 a) ∧ w = w' := h ▸ Ahead y h0 h1 w
theorem left_eq (n : Int) : n - Cal.ahead (Yr.dY n) = Cal.cum (Yr.dY n) (Yr.dM n) + Yr.dD n - 1 := by
  have := Yr.days_of n
  unfold Cal.days at this
  omega
set_option maxHeartbeats 6400000 in
theorem Date (n : Int) (h0 : -9000000000000000000 ≤ n) (h1 : n ≤ 9000000000000000000) (w : World) : Calls Tryz.prog 180 #[.int .i64 n] w fun e w' =>
    e = .returned (if okN n then .tuple #[.agg #[.int .i64 (Yr.dY n), .int .i64 (Yr.dM n), .int .i64 (Yr.dD n)], .int .i64 0] else .tuple #[.agg #[.int .i64 0, .int .i64 0, .int .i64 0], .int .i64 1]) ∧ Below w.heap.size w w' := by
  have c1 := Ahead' (-40000) _ ahead_lo (by omega) (by omega)
  have c2 := Ahead' 40001 _ ahead_hi (by omega) (by omega)
  unfold okN
  rw [ahead_lo, ahead_hi]
  have C1 := Lib.hid c1
  have C2 := Lib.hid c2
  clear c1 c2
  by_cases g0 : n < -15329228
  · rw [decide_eq_false (by omega : ¬ -15329228 ≤ n)]
    simp only [Bool.false_and, Bool.false_eq_true, if_false]
    go_enter Tryz.func180, Tryz.ntmps180
    go_wp2_with (first | (go_at_call 130; (with_reducible refine (C1.out _).mono ?_); rintro e w' ⟨rfl, rfl⟩) | (go_at_call 130; (with_reducible refine (C2.out _).mono ?_); rintro e w' ⟨rfl, rfl⟩))
    refine bodyPost_ret (v := .tuple #[.agg #[.int .i64 0, .int .i64 0, .int .i64 0], .int .i64 1]) ?_ rfl ⟨rfl, ?_⟩
    · simp only [results, Tryz.results180]
      go_simp
    · repeat (first | (with_reducible exact Below.refl _ _) | (with_reducible assumption) | (with_reducible refine ba ?_) | (with_reducible refine bd ?_) | (with_reducible refine bdn ?_ _) | (with_reducible refine bset ?_ (by first | exact Nat.le_refl _ | omega | (simp; done) | (simp; omega))) | (with_reducible refine bt ?_ (by with_reducible assumption)))
  rw [decide_eq_true (by omega : -15329228 ≤ n)]
  by_cases g1 : 13890538 ≤ n
  · rw [decide_eq_false (by omega : ¬ n < 13890538)]
    simp only [Bool.and_false, Bool.false_eq_true, if_false]
    go_enter Tryz.func180, Tryz.ntmps180
    go_wp2_with (first | (go_at_call 130; (with_reducible refine (C1.out _).mono ?_); rintro e w' ⟨rfl, rfl⟩) | (go_at_call 130; (with_reducible refine (C2.out _).mono ?_); rintro e w' ⟨rfl, rfl⟩))
    refine bodyPost_ret (v := .tuple #[.agg #[.int .i64 0, .int .i64 0, .int .i64 0], .int .i64 1]) ?_ rfl ⟨rfl, ?_⟩
    · simp only [results, Tryz.results180]
      go_simp
    · repeat (first | (with_reducible exact Below.refl _ _) | (with_reducible assumption) | (with_reducible refine ba ?_) | (with_reducible refine bd ?_) | (with_reducible refine bdn ?_ _) | (with_reducible refine bset ?_ (by first | exact Nat.le_refl _ | omega | (simp; done) | (simp; omega))) | (with_reducible refine bt ?_ (by with_reducible assumption)))
  rw [decide_eq_true (by omega : n < 13890538)]
  simp only [Bool.and_self, if_true]
  obtain ⟨s0, s1⟩ := start_le n (by omega) (by omega)
  obtain ⟨y0, y1⟩ := dY_bd n (by omega) (by omega)
  have hv := Yr.valid n
  have m1 := hv.m1
  have m2 := hv.m2
  have d1 := hv.d1
  have d2 := hv.d2
  have hai := ahead_lt_iff n
  have hle := left_eq n
  clear hv
  generalize Yr.dY n = Y at *
  generalize Yr.dM n = M at *
  generalize Yr.dD n = D at *
  have d3 : D ≤ 31 := by have := Cal.len_le Y M; omega
  have cf := RNum.Floor n 366 (by omega) (by omega) (by omega) (by omega)
  have ab := Cal.ahead_bd Y (by omega) (by omega)
  have HA := Lib.hid hai
  have HL := Lib.hid hle
  have Cf := Lib.hid cf
  clear hai hle cf
  go_enter Tryz.func180, Tryz.ntmps180
  go_wp2_with (first | (go_at_call 130; (with_reducible refine (C1.out _).mono ?_); rintro e w' ⟨rfl, rfl⟩) | (go_at_call 130; (with_reducible refine (C2.out _).mono ?_); rintro e w' ⟨rfl, rfl⟩) | (go_at_call 181; (with_reducible refine (Cf.out _).mono ?_); rintro e w' ⟨rfl, rfl⟩))
  go_loop [4] (fun s => ∃ k : Int, s = .int .i64 k ∧ -42000 ≤ k ∧ k ≤ 40000) (fun s => (intOf s + 50000).toNat)
  case atStart => exact ⟨_, rfl, s0, s1⟩
  case round =>
    obtain ⟨k, rfl, k0, k1⟩ := hrel
    have ca := Ahead k (by omega) (by omega)
    have hk := HA.out k
    generalize Cal.ahead k = a at *
    have Ca := Lib.hid ca
    clear ca
    by_cases hgt : n < a
    · have hYk : Y < k := by omega
      clear hk
      go_wp2_with (go_at_call 130; (with_reducible refine (Ca.out _).mono ?_); rintro e w' ⟨rfl, rfl⟩)
      go_round
      case rel => exact ⟨k - 1, rfl, by omega, by omega⟩
      case measure => simp [intOf]; omega
    · have hkY : k ≤ Y := by omega
      clear hk
      go_wp2_with (go_at_call 130; (with_reducible refine (Ca.out _).mono ?_); rintro e w' ⟨rfl, rfl⟩)
      go_loop [4] (fun s => ∃ k : Int, s = .int .i64 k ∧ -42000 ≤ k ∧ k ≤ Y) (fun s => (Y - intOf s).toNat)
      case atStart => exact ⟨_, rfl, k0, hkY⟩
      case round =>
        obtain ⟨j, rfl, j0, j1⟩ := hrel
        have cb := Ahead (j + 1) (by omega) (by omega)
        have hj := HA.out (j + 1)
        generalize Cal.ahead (j + 1) = b at *
        have Cb := Lib.hid cb
        clear cb
        by_cases hle : b ≤ n
        · have hjY : j + 1 ≤ Y := hj.1 hle
          clear hj
          go_wp2_with (go_at_call 130; (with_reducible refine (Cb.out _).mono ?_); rintro e w' ⟨rfl, rfl⟩)
          go_round
          case rel => exact ⟨j + 1, rfl, by omega, by omega⟩
          case measure => simp [intOf]; omega
        · have hjY : j = Y := by omega
          clear hj
          subst hjY
          have cc := Ahead j (by omega) (by omega)
          have hl0 := HL.out
          have e1 := Cal.cum_bd j M m1 m2
          have e2 := Cal.lp_01 j
          have e3 := Cal.len_le j M
          obtain ⟨g, hg⟩ : ∃ g, g = n - Cal.ahead j := ⟨_, rfl⟩
          have hg2 : g = Cal.cum j M + D - 1 := by omega
          have g0 : 0 ≤ g ∧ g ≤ 400 := by omega
          have Hg2 := Lib.hid hg2
          generalize Cal.ahead j = c at *
          have Hg := Lib.hid hg
          have Cc := Lib.hid cc
          clear hg hg2 cc hl0 HL e1 e3
          go_wp2_with (first | (go_at_call 130; (with_reducible refine (Cb.out _).mono ?_); rintro e w' ⟨rfl, rfl⟩) | (go_at_call 130; (with_reducible refine (Cc.out _).mono ?_); rintro e w' ⟨rfl, rfl⟩))
          rw [← Hg.out]
          go_loopw [5, 6] (fun l i wr => ∃ k : Int, l = .int .i64 (g - Cal.cum j k) ∧ i = .int .i64 k ∧ 1 ≤ k ∧ k ≤ M ∧ Below w.heap.size w wr ∧ Box wr w.heap.size #[.int .i64 0, .int .i64 0, .int .i64 0] 114) (fun _ i _ => (M - intOf i).toNat)
          case atStart => exact ⟨1, by rw [cum_one, Int.sub_zero], rfl, by omega, m1, by repeat (first | (with_reducible exact Below.refl _ _) | (with_reducible assumption) | (with_reducible refine ba ?_) | (with_reducible refine bd ?_) | (with_reducible refine bdn ?_ _) | (with_reducible refine bset ?_ (by first | exact Nat.le_refl _ | omega | (simp; done) | (simp; omega))) | (with_reducible refine bt ?_ (by with_reducible assumption))), by repeat (first | (with_reducible assumption) | (with_reducible exact Box.new _ _ _) | (with_reducible refine Box.old ?_) | (with_reducible refine Box.drew ?_) | (with_reducible refine Box.drewN ?_ _) | (with_reducible refine Box.other ?_ (by first | assumption | omega | (simp; omega))) | (with_reducible refine Box.later ?_ (by with_reducible assumption)))⟩
          case round =>
            obtain ⟨i, rfl, rfl, i0, i1, hbel, hbx⟩ := hrel
            have u0 := hbx.lt
            have f0 := hbx.cell
            have f1 := hbx.free
            have cl := Len j i
            by_cases hlt : i < M
            · have hc1 := Cal.cum_succ j i i0 (by omega)
              have hc2 := Cal.cum_bd j i i0 (by omega)
              have hc3 := Cal.len_le j i
              have hc4 := Yr.cum_mono (y := j) i0 m2 hlt
              have q0 : Cal.len j i ≤ g - Cal.cum j i := by have := Hg2.out; omega
              have q1 : 0 ≤ Cal.cum j i ∧ Cal.cum j i ≤ 400 := by omega
              generalize Cal.len j i = ln at *
              generalize hcc : Cal.cum j i = ci at *
              have Hc1 := Lib.hid hc1
              have Cl := Lib.hid cl
              clear hc1 hc2 hc4 cl hcc
              go_wp2_with (go_at_call 85; (with_reducible refine (Cl.out _).mono ?_); rintro e wn ⟨rfl, hbn⟩; replace hbel := bt hbel (by first | exact hbn); replace hbx := Box.later hbx hbn; have u0 := hbx.lt; have f0 := hbx.cell; have f1 := hbx.free; clear hbn)
              go_roundw
              case rel => exact ⟨i + 1, by rw [Hc1.out]; go_num, rfl, by omega, by omega, by repeat (first | (with_reducible exact Below.refl _ _) | (with_reducible assumption) | (with_reducible refine ba ?_) | (with_reducible refine bd ?_) | (with_reducible refine bdn ?_ _) | (with_reducible refine bset ?_ (by first | exact Nat.le_refl _ | omega | (simp; done) | (simp; omega))) | (with_reducible refine bt ?_ (by with_reducible assumption))), by repeat (first | (with_reducible assumption) | (with_reducible exact Box.new _ _ _) | (with_reducible refine Box.old ?_) | (with_reducible refine Box.drew ?_) | (with_reducible refine Box.drewN ?_ _) | (with_reducible refine Box.other ?_ (by first | assumption | omega | (simp; omega))) | (with_reducible refine Box.later ?_ (by with_reducible assumption)))⟩
              case measure => simp [intOf]; omega
            · obtain rfl : i = M := by omega
              have hgc : g - Cal.cum j i = D - 1 := by have := Hg2.out; omega
              rw [hgc]
              clear hgc hlt
              generalize Cal.len j i = ln at *
              have Cl := Lib.hid cl
              clear cl
              go_wp2_with (go_at_call 85; (with_reducible refine (Cl.out _).mono ?_); rintro e w2 ⟨rfl, hb2⟩; obtain ⟨hc2, hf2⟩ := bcell hb2; have hc2_0 := fun o => hc2 (w.heap.size) o (by first | assumption | omega | (simp; done) | (simp; omega)); have hf2_0 := fun o => hf2 (w.heap.size) o (by first | assumption | omega | (simp; done) | (simp; omega)); clear hc2 hf2; have hz2_0 : w.heap.size < w2.heap.size := (by first | exact sz1 hb2 | exact sz2 hb2 | exact sz3 hb2 | (have := hb2.size; (try simp only [World.size_alloc, World.size_drew] at this); omega)))
              refine bodyPost_ret (v := .tuple #[.agg #[.int .i64 j, .int .i64 i, .int .i64 D], .int .i64 0]) ?_ rfl ⟨rfl, ?_⟩
              · simp only [results, Tryz.results180]
                go_simp
              · repeat (first | (with_reducible exact Below.refl _ _) | (with_reducible assumption) | (with_reducible refine ba ?_) | (with_reducible refine bd ?_) | (with_reducible refine bdn ?_ _) | (with_reducible refine bset ?_ (by first | exact Nat.le_refl _ | omega | (simp; done) | (simp; omega))) | (with_reducible refine bt ?_ (by with_reducible assumption)))
end RCiv
end Go.Proofs.YtkpjhgkmjcdobaaGreatDoor
