import Derived.Test.YtcfmchpoclkpgaaGreatDoorG10
import Derived.Test.YtcfmchpoclkpgaaGreatDoorG2
namespace Go.Proofs.YtcfmchpoclkpgaaGreatDoor
open Go.RowKit NB
namespace RCiv
set_option maxHeartbeats 800000 in
theorem Right (y m d : Int) (w : World) : Calls Tryz.prog 305 #[.agg #[.int .i64 y, .int .i64 m, .int .i64 d]] w fun e w' => e = .returned (.bool (Civ.right y m d)) ∧ Below w.heap.size w w' := by
  unfold Civ.right
  by_cases h1 : -40000 ≤ y
  case neg =>
    have d1 : decide (-40000 ≤ y) = false := by simpa using h1
    rw [d1]
    go_enter Tryz.func305, Tryz.ntmps305
    go_wp2
    go_quiet (fail)
    go_wp2
    go_ret
    exact ⟨rfl, by repeat (first|(with_reducible exact Below.refl _ _)|(with_reducible assumption)|(with_reducible refine ba ?_)|(with_reducible refine bd ?_)|(with_reducible refine bdn ?_ _)|(with_reducible refine bset ?_ (by first|exact Nat.le_refl _|omega|(simp;done)|(simp;omega)))|(with_reducible refine bt ?_ (by with_reducible assumption)))⟩
  case pos =>
    by_cases h2 : y ≤ 40000
    case neg =>
      have d1 : decide (y ≤ 40000) = false := by simpa using h2
      rw [d1]
      go_enter Tryz.func305, Tryz.ntmps305
      go_wp2
      go_quiet (fail)
      go_wp2
      go_ret
      exact ⟨by simp, by repeat (first|(with_reducible exact Below.refl _ _)|(with_reducible assumption)|(with_reducible refine ba ?_)|(with_reducible refine bd ?_)|(with_reducible refine bdn ?_ _)|(with_reducible refine bset ?_ (by first|exact Nat.le_refl _|omega|(simp;done)|(simp;omega)))|(with_reducible refine bt ?_ (by with_reducible assumption)))⟩
    case pos =>
      by_cases h3 : 1 ≤ d
      case neg =>
        have d1 : decide (1 ≤ d) = false := by simpa using h3
        rw [d1]
        go_enter Tryz.func305, Tryz.ntmps305
        go_wp2
        go_quiet (fail)
        go_wp2
        go_ret
        exact ⟨by simp, by repeat (first|(with_reducible exact Below.refl _ _)|(with_reducible assumption)|(with_reducible refine ba ?_)|(with_reducible refine bd ?_)|(with_reducible refine bdn ?_ _)|(with_reducible refine bset ?_ (by first|exact Nat.le_refl _|omega|(simp;done)|(simp;omega)))|(with_reducible refine bt ?_ (by with_reducible assumption)))⟩
      case pos =>
        have hf : (decide (-40000 ≤ y) && decide (y ≤ 40000) && decide (1 ≤ d) && decide (d ≤ Cal.len y m)) = decide (d ≤ Cal.len y m) := by simp [h1, h2, h3]
        rw [hf]
        clear hf
        go_enter Tryz.func305, Tryz.ntmps305
        go_wp2
        (refine region_later (by kernel_rfl) (by kernel_rfl) ?_;(repeat (go_big_quiet_step (first|(go_at_call 240;rename_i xL;apply calls_later xL (Nat.le_refl _);exact (Len _ _ _)))));refine wpQuiet_nil ?_;rintro _ ⟨⟨u1, hu1⟩, rfl⟩)
        go_wp2
        go_ret
        exact ⟨rfl, by repeat (first|(with_reducible exact Below.refl _ _)|(with_reducible assumption)|(with_reducible refine ba ?_)|(with_reducible refine bd ?_)|(with_reducible refine bdn ?_ _)|(with_reducible refine bset ?_ (by first|exact Nat.le_refl _|omega|(simp;done)|(simp;omega)))|(with_reducible refine bt ?_ (by with_reducible assumption)))⟩
theorem cum_one (y : Int) : Cal.cum y 1 = 0 := by unfold Cal.cum;simp
set_option maxHeartbeats 1600000 in
theorem YearDay (y m d : Int) (w : World) : Calls Tryz.prog 279 #[.agg #[.int .i64 y, .int .i64 m, .int .i64 d]] w fun e w' =>
    e = .returned (if Civ.right y m d then .tuple #[.int .i64 (Cal.cum y m + d), .int .i64 0] else .tuple #[.int .i64 0, .int .i64 1]) ∧ Below w.heap.size w w' := by
  have cr := Right y m d
  cases hr : Civ.right y m d
  · rw [hr] at cr
    have Cr := Lib.hid cr
    clear cr hr
    rw [if_neg (by decide)]
    go_enter Tryz.func279, Tryz.ntmps279
    go_wp2_with (go_at_call 305;(with_reducible refine (Cr.out _).mono ?_);rintro e w1 ⟨rfl, hb1⟩;obtain ⟨hc1, hf1⟩ := bcell hb1;have hc1_0 := fun o => hc1 (w.heap.size) o (by first|assumption|omega|(simp;done)|(simp;omega));have hf1_0 := fun o => hf1 (w.heap.size) o (by first|assumption|omega|(simp;done)|(simp;omega));clear hc1 hf1;have hz1_0 : w.heap.size < w1.heap.size := (by first|exact sz1 hb1|exact sz2 hb1|exact sz3 hb1|(have := hb1.size;(try simp only [World.size_alloc, World.size_drew] at this);omega)))
    go_ret2
    exact ⟨rfl, by repeat (first|(with_reducible exact Below.refl _ _)|(with_reducible assumption)|(with_reducible refine ba ?_)|(with_reducible refine bd ?_)|(with_reducible refine bdn ?_ _)|(with_reducible refine bset ?_ (by first|exact Nat.le_refl _|omega|(simp;done)|(simp;omega)))|(with_reducible refine bt ?_ (by with_reducible assumption)))⟩
  · rw [hr] at cr
    obtain ⟨y0, y1, m0, m1, d0, d1⟩ := Civ.right_spec hr
    have lb := Cal.len_le y m
    have Cr := Lib.hid cr
    clear cr hr
    rw [if_pos rfl]
    go_enter Tryz.func279, Tryz.ntmps279
    go_wp2_with (go_at_call 305;(with_reducible refine (Cr.out _).mono ?_);rintro e w1 ⟨rfl, hb1⟩;obtain ⟨hc1, hf1⟩ := bcell hb1;have hc1_0 := fun o => hc1 (w.heap.size) o (by first|assumption|omega|(simp;done)|(simp;omega));have hf1_0 := fun o => hf1 (w.heap.size) o (by first|assumption|omega|(simp;done)|(simp;omega));clear hc1 hf1;have hz1_0 : w.heap.size < w1.heap.size := (by first|exact sz1 hb1|exact sz2 hb1|exact sz3 hb1|(have := hb1.size;(try simp only [World.size_alloc, World.size_drew] at this);omega)))
    have hB : Below w.heap.size w w1 := by repeat (first|(with_reducible exact Below.refl _ _)|(with_reducible assumption)|(with_reducible refine ba ?_)|(with_reducible refine bd ?_)|(with_reducible refine bdn ?_ _)|(with_reducible refine bset ?_ (by first|exact Nat.le_refl _|omega|(simp;done)|(simp;omega)))|(with_reducible refine bt ?_ (by with_reducible assumption)))
    have bx : Box w1 w.heap.size #[.int .i64 y, .int .i64 m, .int .i64 d] 264 := Box.later (Box.new w _ _) hb1
    clear hc1_0 hf1_0 hb1
    go_loopw [4, 5] (fun s i wr => ∃ k : Int, s = .int .i64 (Cal.cum y k + d) ∧ i = .int .i64 k ∧ 1 ≤ k ∧ k ≤ m ∧ (0 ≤ Cal.cum y k ∧ Cal.cum y k ≤ 366) ∧ Below w.heap.size w wr ∧ Box wr w.heap.size #[.int .i64 y, .int .i64 m, .int .i64 d] 264) (fun _ i _ => (m - intOf i).toNat)
    case atStart => exact ⟨1, by rw [cum_one, Int.zero_add], rfl, by omega, by omega, by rw [cum_one];omega, hB, bx⟩
    case round =>
      obtain ⟨k, rfl, rfl, hk1, hkm, hcb, hbel, hbx⟩ := hrel
      have u0 := hbx.lt
      have f0 := hbx.cell
      by_cases hlt : k < m
      · have hcs := Cal.cum_succ y k (by omega) (by omega)
        have hcb1 := Cal.cum_bd y (k + 1) (by omega) (by omega)
        have hl0 := Cal.len_le y (k + 1)
        have hlp := Cal.lp_01 y
        have hlk := Cal.len_le y k
        have cl := Len y k
        generalize Cal.len y k = lk at *
        generalize Cal.cum y k = ck at *
        have Hcs := Lib.hid hcs
        have Cl := Lib.hid cl
        have Hcb1 : 0 ≤ Cal.cum y (k + 1) ∧ Cal.cum y (k + 1) ≤ 366 := by omega
        clear hcs cl hcb1 hl0 hlp
        go_wp2_with (go_at_call 240;(with_reducible refine (Cl.out _).mono ?_);rintro e w2 ⟨rfl, hb2⟩;obtain ⟨hc2, hf2⟩ := bcell hb2;have hc2_0 := fun o => hc2 (w.heap.size) o (by first|assumption|omega|(simp;done)|(simp;omega));have hf2_0 := fun o => hf2 (w.heap.size) o (by first|assumption|omega|(simp;done)|(simp;omega));clear hc2 hf2;have hz2_0 : w.heap.size < w2.heap.size := (by first|exact sz1 hb2|exact sz2 hb2|exact sz3 hb2|(have := hb2.size;(try simp only [World.size_alloc, World.size_drew] at this);omega)))
        go_roundw
        case rel => exact ⟨k + 1, by rw [Hcs.out];go_num, rfl, by omega, by omega, Hcb1, by repeat (first|(with_reducible exact Below.refl _ _)|(with_reducible assumption)|(with_reducible refine ba ?_)|(with_reducible refine bd ?_)|(with_reducible refine bdn ?_ _)|(with_reducible refine bset ?_ (by first|exact Nat.le_refl _|omega|(simp;done)|(simp;omega)))|(with_reducible refine bt ?_ (by with_reducible assumption))), by repeat (first|(with_reducible assumption)|(with_reducible exact Box.new _ _ _)|(with_reducible refine Box.old ?_)|(with_reducible refine Box.drew ?_)|(with_reducible refine Box.drewN ?_ _)|(with_reducible refine Box.other ?_ (by first|assumption|omega|(simp;omega)))|(with_reducible refine Box.later ?_ (by with_reducible assumption)))⟩
        case measure => simp [intOf];omega
      · obtain rfl : k = m := by omega
        go_wp2
        go_ret2
        exact ⟨rfl, by repeat (first|(with_reducible exact Below.refl _ _)|(with_reducible assumption)|(with_reducible refine ba ?_)|(with_reducible refine bd ?_)|(with_reducible refine bdn ?_ _)|(with_reducible refine bset ?_ (by first|exact Nat.le_refl _|omega|(simp;done)|(simp;omega)))|(with_reducible refine bt ?_ (by with_reducible assumption)))⟩
set_option maxHeartbeats 1600000 in
theorem Days (y m d : Int) (w : World) : Calls Tryz.prog 239 #[.agg #[.int .i64 y, .int .i64 m, .int .i64 d]] w fun e w' =>
    e = .returned (if Civ.right y m d then .tuple #[.int .i64 (Cal.days y m d), .int .i64 0] else .tuple #[.int .i64 0, .int .i64 1]) ∧ Below w.heap.size w w' := by
  have cy := YearDay y m d
  cases hr : Civ.right y m d
  · rw [hr, if_neg (by decide)] at cy
    rw [if_neg (by decide)]
    have Cy := Lib.hid cy
    clear cy hr
    go_enter Tryz.func239, Tryz.ntmps239
    go_wp2_with (go_at_call 279;(with_reducible refine (Cy.out _).mono ?_);rintro e w1 ⟨rfl, hb1⟩;obtain ⟨hc1, hf1⟩ := bcell hb1;have hc1_0 := fun o => hc1 (w.heap.size) o (by first|assumption|omega|(simp;done)|(simp;omega));have hf1_0 := fun o => hf1 (w.heap.size) o (by first|assumption|omega|(simp;done)|(simp;omega));clear hc1 hf1;have hz1_0 : w.heap.size < w1.heap.size := (by first|exact sz1 hb1|exact sz2 hb1|exact sz3 hb1|(have := hb1.size;(try simp only [World.size_alloc, World.size_drew] at this);omega)))
    go_ret2
    exact ⟨rfl, by repeat (first|(with_reducible exact Below.refl _ _)|(with_reducible assumption)|(with_reducible refine ba ?_)|(with_reducible refine bd ?_)|(with_reducible refine bdn ?_ _)|(with_reducible refine bset ?_ (by first|exact Nat.le_refl _|omega|(simp;done)|(simp;omega)))|(with_reducible refine bt ?_ (by with_reducible assumption)))⟩
  · rw [hr, if_pos rfl] at cy
    rw [if_pos rfl]
    obtain ⟨y0, y1, m0, m1, d0, d1⟩ := Civ.right_spec hr
    have ca := Ahead y (by omega) (by omega)
    have ab := Cal.ahead_bd y (by omega) (by omega)
    have cb := Cal.cum_bd y m m0 m1
    have lb := Cal.len_le y m
    have lp := Cal.lp_01 y
    unfold Cal.days
    rw [Int.add_assoc (Cal.ahead y)]
    generalize Cal.ahead y = a at *
    have cd0 : 0 ≤ Cal.cum y m + d := by omega
    have cd1 : Cal.cum y m + d ≤ 400 := by omega
    generalize Cal.cum y m + d = c at *
    have Cy := Lib.hid cy
    have Ca := Lib.hid ca
    clear cy ca hr
    go_enter Tryz.func239, Tryz.ntmps239
    go_wp2_with (first|(go_at_call 279;(with_reducible refine (Cy.out _).mono ?_);rintro e w1 ⟨rfl, hb1⟩;obtain ⟨hc1, hf1⟩ := bcell hb1;have hc1_0 := fun o => hc1 (w.heap.size) o (by first|assumption|omega|(simp;done)|(simp;omega));have hf1_0 := fun o => hf1 (w.heap.size) o (by first|assumption|omega|(simp;done)|(simp;omega));clear hc1 hf1;have hz1_0 : w.heap.size < w1.heap.size := (by first|exact sz1 hb1|exact sz2 hb1|exact sz3 hb1|(have := hb1.size;(try simp only [World.size_alloc, World.size_drew] at this);omega)))|(go_at_call 280;(with_reducible refine (Ca.out _).mono ?_);rintro e w' ⟨rfl, rfl⟩))
    go_ret2
    exact ⟨rfl, by repeat (first|(with_reducible exact Below.refl _ _)|(with_reducible assumption)|(with_reducible refine ba ?_)|(with_reducible refine bd ?_)|(with_reducible refine bdn ?_ _)|(with_reducible refine bset ?_ (by first|exact Nat.le_refl _|omega|(simp;done)|(simp;omega)))|(with_reducible refine bt ?_ (by with_reducible assumption)))⟩
theorem Weekday (n : Int) (h0 : -9000000000000000000 ≤ n) (h1 : n ≤ 9000000000000000000) (w : World) :
    Calls Tryz.prog 241 #[.int .i64 n] w fun e w' => e = .returned (.int .i64 ((n + 4) % 7)) ∧ w = w' := by
  have cr := RNum.Rest n 7 (by omega) (by omega) (by omega) (by omega)
  rw [show (n + 4) % 7 = (n % 7 + 4) % 7 by omega]
  have r0 : 0 ≤ n % 7 := by omega
  have r1 : n % 7 ≤ 6 := by omega
  generalize n % 7 = r at *
  have Cr := Lib.hid cr
  clear cr
  go_enter Tryz.func241, Tryz.ntmps241
  go_wp2_with (go_at_call 282;(with_reducible refine (Cr.out _).mono ?_);rintro e w' ⟨rfl, rfl⟩)
  go_ret
  exact ⟨rfl, rfl⟩
def okN (n : Int) : Bool := decide (Cal.ahead (-40000) ≤ n) && decide (n < Cal.ahead 40001)
theorem ahead_lo : Cal.ahead (-40000) = -15329228 := by decide +kernel
theorem ahead_hi : Cal.ahead 40001 = 13890538 := by decide +kernel
theorem start_le (n : Int) (h0 : -15329228 ≤ n) (h1 : n < 13890538) : -42000 ≤ 1970 + n / 366 ∧ 1970 + n / 366 ≤ 40000 := by omega
theorem dY_bd (n : Int) (h0 : -15329228 ≤ n) (h1 : n < 13890538) : -40000 ≤ Yr.dY n ∧ Yr.dY n ≤ 40000 := by
  have hy := Yr.year_of n
  have e1 := ahead_lo
  have e2 := ahead_hi
  constructor
  · rcases (by omega : -40000 ≤ Yr.dY n ∨ Yr.dY n + 1 ≤ -40000) with h|h
    · exact h
    · have := Cal.ahead_mono h;omega
  · rcases (by omega : Yr.dY n ≤ 40000 ∨ 40001 ≤ Yr.dY n) with h|h
    · exact h
    · have := Cal.ahead_mono h;omega
theorem ahead_lt_iff (n y : Int) : Cal.ahead y ≤ n ↔ y ≤ Yr.dY n := by
  have hy := Yr.year_of n
  constructor
  · intro h
    rcases (by omega : y ≤ Yr.dY n ∨ Yr.dY n + 1 ≤ y) with h'|h'
    · exact h'
    · have := Cal.ahead_mono h';omega
  · intro h
    have := Cal.ahead_mono h;omega
end RCiv
end Go.Proofs.YtcfmchpoclkpgaaGreatDoor
