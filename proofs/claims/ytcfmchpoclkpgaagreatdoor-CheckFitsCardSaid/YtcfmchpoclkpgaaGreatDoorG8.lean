import Derived.Test.YtcfmchpoclkpgaaGreatDoorG6
import Derived.Test.YtcfmchpoclkpgaaGreatDoorG7
import Derived.Test.YtcfmchpoclkpgaaGreatDoorG3
namespace Go.Proofs.YtcfmchpoclkpgaaGreatDoor
open Go.RowKit NB
namespace Er
theorem within (n m : Int) (hm : 0 ≤ m ∧ m ≤ 9223372036854775807) (w : World) : Calls Tryz.prog 114 #[.int .i64 n, .int .i64 m] w fun e w' => e = .returned (.bool (decide (-m ≤ n) && decide (n ≤ m))) ∧ w = w' := by
  go_enter Tryz.func114, Tryz.ntmps114
  go_wp2
  all_goals
    go_ret
    refine ⟨ret_bool ?_, rfl⟩
    simp [*]
    try omega
theorem inside (y : Int) (w : World) : Calls Tryz.prog 172 #[.int .i64 y] w fun e w' => e = .returned (.bool (decide (-32767 < y) && decide (y < 32767))) ∧ w = w' := by
  go_enter Tryz.func172, Tryz.ntmps172
  go_wp2
  all_goals
    go_ret
    refine ⟨ret_bool ?_, rfl⟩
    simp [*]
    try omega
def noneB (u : UntilV) : Bool := decide (u.year = 0) && decide (u.month = 0) && decide (u.kind = 0) && decide (u.week = 0) && decide (u.day = 0) && decide (u.sec = 0) && decide (u.base = 0)
def yearB (y : Int) : Bool := decide (-32767 < y) && decide (y < 32767)
def endB (u : UntilV) : Bool := if u.has then yearB u.year && Day.fits u.kind u.week u.day u.month && Rul.clockRight u.sec u.base else noneB u
set_option maxHeartbeats 1600000 in
theorem ends (u : UntilV) (w : World) : Calls Tryz.prog 116 #[.agg u.cells.toArray] w fun e w' => e = .returned (.bool (endB u)) ∧ Below w.heap.size w w' := by
  have ci := fun W => inside u.year W
  have cf := fun W => Day.Fits u.kind u.week u.day u.month W
  have cc := fun W => Rul.ClockRight u.sec u.base W
  rw [show (decide (-32767 < u.year) && decide (u.year < 32767)) = yearB u.year from rfl] at ci
  unfold endB UntilV.cells
  cases hh : u.has
  · rw [if_neg (by decide)]
    clear ci cf cc hh
    unfold noneB
    go_enter Tryz.func116, Tryz.ntmps116
    go_wp2
    all_goals
      go_ret
      exact ⟨ret_bool (by simp [*]), by repeat (first|(with_reducible exact Below.refl _ _)|(with_reducible assumption)|(with_reducible refine ba ?_)|(with_reducible refine bd ?_)|(with_reducible refine bdn ?_ _)|(with_reducible refine bset ?_ (by first|exact Nat.le_refl _|omega|(simp;done)|(simp;omega)))|(with_reducible refine bt ?_ (by with_reducible assumption)))⟩
  · rw [if_pos rfl]
    generalize yearB u.year = g1 at *
    generalize Day.fits u.kind u.week u.day u.month = g2 at *
    generalize Rul.clockRight u.sec u.base = g3 at *
    have Ci := Lib.hid ci
    have Cf := Lib.hid cf
    have Cc := Lib.hid cc
    clear ci cf cc hh
    go_enter Tryz.func116, Tryz.ntmps116
    go_wp2_with (first
      | (go_at_call 172;(with_reducible refine (Ci.out _).mono ?_);rintro e w' ⟨rfl, rfl⟩)
      | (go_at_call 129;(with_reducible refine (Cf.out _).mono ?_);rintro e w1 ⟨rfl, hb1⟩;obtain ⟨hc1, hf1⟩ := bcell hb1;have hc1_0 := fun o => hc1 (w.heap.size) o (by first|assumption|omega|(simp;done)|(simp;omega));have hf1_0 := fun o => hf1 (w.heap.size) o (by first|assumption|omega|(simp;done)|(simp;omega));clear hc1 hf1;have hz1_0 : w.heap.size < w1.heap.size := (by first|exact sz1 hb1|exact sz2 hb1|exact sz3 hb1|(have := hb1.size;(try simp only [World.size_alloc, World.size_drew] at this);omega)))
      | (go_at_call 130;(with_reducible refine (Cc.out _).mono ?_);rintro e w2 ⟨rfl, hb2⟩;obtain ⟨hc2, hf2⟩ := bcell hb2;have hc2_0 := fun o => hc2 (w.heap.size) o (by first|assumption|omega|(simp;done)|(simp;omega));have hf2_0 := fun o => hf2 (w.heap.size) o (by first|assumption|omega|(simp;done)|(simp;omega));clear hc2 hf2;have hz2_0 : w.heap.size < w2.heap.size := (by first|exact sz1 hb2|exact sz2 hb2|exact sz3 hb2|(have := hb2.size;(try simp only [World.size_alloc, World.size_drew] at this);omega))))
    all_goals
      go_ret
      exact ⟨ret_bool (by simp [*]), by repeat (first|(with_reducible exact Below.refl _ _)|(with_reducible assumption)|(with_reducible refine ba ?_)|(with_reducible refine bd ?_)|(with_reducible refine bdn ?_ _)|(with_reducible refine bset ?_ (by first|exact Nat.le_refl _|omega|(simp;done)|(simp;omega)))|(with_reducible refine bt ?_ (by with_reducible assumption)))⟩
def rightB (e : EraV) : Bool := if (decide (-54000 ≤ e.off) && decide (e.off ≤ 54000)) = true ∧ Fmt.checkE e.format = 0 ∧ endB e.u = true then
    (if e.kind = 0 then decide (e.save = 0) && e.rules.toList.isEmpty else if e.kind = 1 then decide (-10800 ≤ e.save) && decide (e.save ≤ 10800) && e.rules.toList.isEmpty else if e.kind = 2 then decide (e.save = 0) && decide (Nam.nameE e.rules = 0) else false) else false
set_option maxRecDepth 100000 in
set_option maxHeartbeats 6400000 in
theorem Right (e : EraV) (he : e.Fit) (w : World) (ht : Tab w) : Calls Tryz.prog 65 #[.agg e.cells.toArray] w fun x w' => x = .returned (.bool (rightB e)) ∧ Below w.heap.size w w' := by
  have c1 := fun W => within e.off 54000 (by omega) W
  have c2 := fun W => within e.save 10800 (by omega) W
  have c3 := fun W h => Fmt.Check e.format he.f W h
  have c4 := fun W => ends e.u W
  have c5 := fun W => Nam.Name e.rules he.r W
  obtain ⟨off, kind, save, rules, format, u⟩ := e
  simp only at c1 c2 c3 c4 c5
  have hoff : I64 off := he.off
  have hsave : I64 save := he.save
  unfold rightB EraV.cells
  unfold UntilV.cells at c4
  simp only
  generalize (decide (-54000 ≤ off) && decide (off ≤ 54000)) = g1 at *
  generalize (decide (-10800 ≤ save) && decide (save ≤ 10800)) = g2 at *
  generalize Fmt.checkE format = k1 at *
  generalize endB u = g3 at *
  generalize Nam.nameE rules = k2 at *
  obtain ⟨ne, hne⟩ : ∃ x, x = rules.toList.isEmpty := ⟨_, rfl⟩
  rw [← hne]
  have es : rules.toList.isEmpty = ne := hne.symm
  obtain ⟨pe, hpe⟩ : ∃ x : Bool, x = (if g1 = true ∧ k1 = 0 ∧ g3 = true then (if kind = 0 then decide (save = 0) && ne else if kind = 1 then g2 && ne else if kind = 2 then decide (save = 0) && decide (k2 = 0) else false) else false) := ⟨_, rfl⟩
  rw [← hpe]
  have Hpe := Lib.hid hpe
  have C1 := Lib.hid c1
  have C2 := Lib.hid c2
  have C3 := Lib.hid c3
  have C4 := Lib.hid c4
  have C5 := Lib.hid c5
  have HT := Lib.hid ht
  clear hpe c1 c2 c3 c4 c5 ht hne he
  have hk : kind = 0 ∨ kind = 1 ∨ kind = 2 ∨ (¬ kind = 0 ∧ ¬ kind = 1 ∧ ¬ kind = 2) := by omega
  rcases hk with rfl|rfl|rfl|⟨k0, k1', k2'⟩
  all_goals
    go_enter Tryz.func65, Tryz.ntmps65
    go_wp2_with (first
      | (with_reducible (go_at_call 114;(with_reducible refine (C1.out _).mono ?_);rintro e w' ⟨rfl, rfl⟩))
      | (with_reducible (go_at_call 114;(with_reducible refine (C2.out _).mono ?_);rintro e w' ⟨rfl, rfl⟩))
      | (go_at_call 115;(with_reducible refine (C3.out _ ?_).mono ?_);(· exact HT.out.later (by repeat (first|(with_reducible exact Below.refl _ _)|(with_reducible assumption)|(with_reducible refine ba ?_)|(with_reducible refine bd ?_)|(with_reducible refine bdn ?_ _)|(with_reducible refine bset ?_ (by first|exact Nat.le_refl _|omega|(simp;done)|(simp;omega)))|(with_reducible refine bt ?_ (by with_reducible assumption)))));rintro e w1 ⟨rfl, hb1⟩;obtain ⟨hc1, hf1⟩ := bcell hb1;have hc1_0 := fun o => hc1 (w.heap.size) o (by first|assumption|omega|(simp;done)|(simp;omega));have hf1_0 := fun o => hf1 (w.heap.size) o (by first|assumption|omega|(simp;done)|(simp;omega));clear hc1 hf1;have hz1_0 : w.heap.size < w1.heap.size := (by first|exact sz1 hb1|exact sz2 hb1|exact sz3 hb1|(have := hb1.size;(try simp only [World.size_alloc, World.size_drew] at this);omega)))
      | (go_at_call 116;(with_reducible refine (C4.out _).mono ?_);rintro e w2 ⟨rfl, hb2⟩;obtain ⟨hc2, hf2⟩ := bcell hb2;have hc2_0 := fun o => hc2 (w.heap.size) o (by first|assumption|omega|(simp;done)|(simp;omega));have hf2_0 := fun o => hf2 (w.heap.size) o (by first|assumption|omega|(simp;done)|(simp;omega));clear hc2 hf2;have hz2_0 : w.heap.size < w2.heap.size := (by first|exact sz1 hb2|exact sz2 hb2|exact sz3 hb2|(have := hb2.size;(try simp only [World.size_alloc, World.size_drew] at this);omega)))
      | (go_at_call 117;(with_reducible refine (C5.out _).mono ?_);rintro e w3 ⟨rfl, hb3⟩;obtain ⟨hc3, hf3⟩ := bcell hb3;have hc3_0 := fun o => hc3 (w.heap.size) o (by first|assumption|omega|(simp;done)|(simp;omega));have hf3_0 := fun o => hf3 (w.heap.size) o (by first|assumption|omega|(simp;done)|(simp;omega));clear hc3 hf3;have hz3_0 : w.heap.size < w3.heap.size := (by first|exact sz1 hb3|exact sz2 hb3|exact sz3 hb3|(have := hb3.size;(try simp only [World.size_alloc, World.size_drew] at this);omega))))
  all_goals
    go_ret
    have hpe := Hpe.out
    simp only [*, if_true, if_false, true_and, false_and, and_false, Bool.false_eq_true, Int.reduceEq, eq_self, decide_true, decide_false, Bool.true_and, Bool.false_and] at hpe
    refine ⟨ret_bool ?_, by repeat (first|(with_reducible exact Below.refl _ _)|(with_reducible assumption)|(with_reducible refine ba ?_)|(with_reducible refine bd ?_)|(with_reducible refine bdn ?_ _)|(with_reducible refine bset ?_ (by first|exact Nat.le_refl _|omega|(simp;done)|(simp;omega)))|(with_reducible refine bt ?_ (by with_reducible assumption)))⟩
    first
      | (rw [hpe];done)
      | (rw [hpe];first
        | rfl
        | (simp [*];done)
        | (rw [Bool.eq_iff_iff];simp [*];done)
        | (rw [Bool.eq_iff_iff];simp [*];omega))
end Er
end Go.Proofs.YtcfmchpoclkpgaaGreatDoor
namespace Go.Proofs.YtcfmchpoclkpgaaGreatDoor
namespace Yr
def G (r : Int) : Int := r - r/1460 + r/36524 - r/146096
def F (r : Int) : Int := G r / 365
def S (y : Int) : Int := 365*y + y/4 - y/100 + y/400
theorem G_succ (r : Int) : G r ≤ G (r + 1) := by unfold G;omega
theorem G_mono (r : Int) (n : Nat) : G r ≤ G (r + n) := by
  induction n with
  | zero => simp
  | succ n ih =>
    have := G_succ (r + n)
    rw [show r + ((n + 1 : Nat) : Int) = r + n + 1 by omega]
    omega
theorem F_mono {a b : Int} (h : a ≤ b) : F a ≤ F b := by
  have := G_mono a (b - a).toNat
  rw [show a + ((b - a).toNat : Int) = b by omega] at this
  exact Int.ediv_le_ediv (by decide) this
theorem ends : ∀ y : Fin 400, F (S (y.val : Int)) = y.val ∧ F (S (y.val + 1 : Int) - 1) = y.val := by decide +kernel
theorem find (r : Int) (h0 : 0 ≤ r) : ∀ n : Nat, r < S n → ∃ y : Nat, y < n ∧ S y ≤ r ∧ r < S (y + 1 : Int)
  | 0, h => by simp [S] at h;omega
  | n + 1, h => by
    by_cases hc : r < S n
    · obtain ⟨y, h1, h2⟩ := find r h0 n hc
      exact ⟨y, by omega, h2⟩
    · exact ⟨n, by omega, by omega, by simpa using h⟩
theorem yr (r : Int) (h0 : 0 ≤ r) (h1 : r < 146097) : 0 ≤ F r ∧ F r ≤ 399 ∧ S (F r) ≤ r ∧ r < S (F r + 1) := by
  obtain ⟨y, hy, h2, h3⟩ := find r h0 400 (by have : S ((400 : Nat) : Int) = 146097 := by decide
                                              omega)
  obtain ⟨e1, e2⟩ := ends ⟨y, hy⟩
  have m1 := F_mono h2
  have m2 := F_mono (show r ≤ S (y + 1 : Int) - 1 by omega)
  simp only at e1 e2
  have : F r = y := by omega
  rw [this]
  exact ⟨by omega, by omega, h2, h3⟩
def dq (n : Int) : Int := (n + 719468) / 146097
def dr (n : Int) : Int := (n + 719468) % 146097
def dy (n : Int) : Int := F (dr n)
def dl (n : Int) : Int := dr n - (365 * dy n + dy n / 4 - dy n / 100)
def dm (n : Int) : Int := (5 * dl n + 2) / 153
def dY (n : Int) : Int := if 12 < dm n + 3 then dq n * 400 + dy n + 1 else dq n * 400 + dy n
def dM (n : Int) : Int := if 12 < dm n + 3 then dm n + 3 - 12 else dm n + 3
def dD (n : Int) : Int := dl n - (153 * dm n + 2) / 5 + 1
structure Valid (y m d : Int) : Prop where
  m1 : 1 ≤ m
  m2 : m ≤ 12
  d1 : 1 ≤ d
  d2 : d ≤ Cal.len y m
theorem dr_bd (n : Int) : 0 ≤ dr n ∧ dr n < 146097 := by unfold dr;omega
theorem lp_cycle (q y : Int) : Cal.lp (q * 400 + y + 1) = S (y + 1) - S y - 365 := by
  rw [Cal.lp_eq]
  unfold S
  have h1 : (q * 400 + y + 1) / 4 = 100 * q + (y + 1) / 4 := by omega
  have h2 : (q * 400 + y + 1) / 100 = 4 * q + (y + 1) / 100 := by omega
  have h3 : (q * 400 + y + 1) / 400 = q + (y + 1) / 400 := by omega
  have h4 : (q * 400 + y + 1 - 1) / 4 = 100 * q + y / 4 := by omega
  have h5 : (q * 400 + y + 1 - 1) / 100 = 4 * q + y / 100 := by omega
  have h6 : (q * 400 + y + 1 - 1) / 400 = q + y / 400 := by omega
  omega
theorem dl_eq (n : Int) : dl n = dr n - S (dy n) := by
  obtain ⟨h0, h1⟩ := dr_bd n
  obtain ⟨h2, h3, _, _⟩ := yr (dr n) h0 h1
  unfold dl S
  rw [show F (dr n) = dy n from rfl] at *
  have : dy n / 400 = 0 := by omega
  omega
theorem dl_bd (n : Int) : 0 ≤ dl n ∧ dl n ≤ 364 + Cal.lp (dq n * 400 + dy n + 1) := by
  obtain ⟨h0, h1⟩ := dr_bd n
  obtain ⟨h2, h3, h4, h5⟩ := yr (dr n) h0 h1
  rw [lp_cycle, dl_eq]
  rw [show F (dr n) = dy n from rfl] at *
  omega
theorem dm_bd (n : Int) : 0 ≤ dm n ∧ dm n ≤ 11 := by
  obtain ⟨h1, h2⟩ := dl_bd n
  have := Cal.lp_01 (dq n * 400 + dy n + 1)
  unfold dm;omega
theorem months0 {m : Int} (h1 : 0 ≤ m) (h2 : m ≤ 11) : m = 0 ∨ m = 1 ∨ m = 2 ∨ m = 3 ∨ m = 4 ∨ m = 5 ∨ m = 6 ∨ m = 7 ∨ m = 8 ∨ m = 9 ∨ m = 10 ∨ m = 11 := by omega
theorem valid (n : Int) : Valid (dY n) (dM n) (dD n) := by
  obtain ⟨h1, h2⟩ := dl_bd n
  have := Cal.lp_01 (dq n * 400 + dy n + 1)
  obtain ⟨h4, h5⟩ := dm_bd n
  have hd : dm n = (5 * dl n + 2) / 153 := rfl
  have hM : 1 ≤ dM n ∧ dM n ≤ 12 := by unfold dM;split <;> omega
  refine ⟨hM.1, hM.2, by unfold dD;omega, ?_⟩
  unfold dY dM dD Cal.len
  rcases months0 h4 h5 with h|h|h|h|h|h|h|h|h|h|h|h <;> rw [h] at hd ⊢ <;> simp <;> omega
theorem days_of (n : Int) : Cal.days (dY n) (dM n) (dD n) = n := by
  have hv := valid n
  rw [← Cal.number_eq _ _ _ hv.m1 hv.m2]
  obtain ⟨h4, h5⟩ := dm_bd n
  obtain ⟨g0, g1⟩ := dr_bd n
  obtain ⟨g2, g3, _, _⟩ := yr (dr n) g0 g1
  rw [show F (dr n) = dy n from rfl] at *
  have e0 : Cal.y0 (dY n) (dM n) = dq n * 400 + dy n := by unfold Cal.y0 dY dM;split <;> split <;> omega
  have e1 : Cal.m0 (dM n) = dm n := by unfold Cal.m0 dM;split <;> split <;> omega
  unfold Cal.number
  rw [e0, e1]
  have e2 : (dq n * 400 + dy n) / 400 = dq n := by omega
  have e3 : (dq n * 400 + dy n) % 400 = dy n := by omega
  rw [e2, e3]
  have e4 : dr n + 146097 * dq n = n + 719468 := by unfold dr dq;omega
  unfold dD dl
  omega
theorem ahead_le {y m d : Int} (h : Valid y m d) : Cal.ahead y ≤ Cal.days y m d ∧ Cal.days y m d < Cal.ahead (y + 1) := by
  have h1 := Cal.cum_bd y m h.m1 h.m2
  have h2 := Cal.ahead_succ y
  obtain ⟨_, _, _, _⟩ := h
  unfold Cal.days
  omega
theorem year_of (n : Int) : Cal.ahead (dY n) ≤ n ∧ n < Cal.ahead (dY n + 1) := by
  have := ahead_le (valid n)
  rwa [days_of] at this
end Yr
end Go.Proofs.YtcfmchpoclkpgaaGreatDoor
