import Derived.Test.YtecmipgpldcfcaaGreatDoorG3
import Derived.Test.YtecmipgpldcfcaaGreatDoorG2
namespace Go.Proofs.YtecmipgpldcfcaaGreatDoor
open Go.RowKit NB
namespace Er
theorem within (n m : Int) (hm : 0 ≤ m ∧ m ≤ 9223372036854775807) (w : World) : Calls Tryz.prog 51 #[.int .i64 n, .int .i64 m] w fun e w' => e = .returned (.bool (decide (-m ≤ n) && decide (n ≤ m))) ∧ w = w' := by
  go_enter Tryz.func51, Tryz.ntmps51
  go_wp2
  all_goals
    go_ret
    refine ⟨ret_bool ?_, rfl⟩
    simp [*]
    try omega
theorem inside (y : Int) (w : World) : Calls Tryz.prog 84 #[.int .i64 y] w fun e w' => e = .returned (.bool (decide (-32767 < y) && decide (y < 32767))) ∧ w = w' := by
  go_enter Tryz.func84, Tryz.ntmps84
  go_wp2
  all_goals
    go_ret
    refine ⟨ret_bool ?_, rfl⟩
    simp [*]
    try omega
def noneB (u : UntilV) : Bool := decide (u.year = 0) && decide (u.month = 0) && decide (u.kind = 0) && decide (u.week = 0) && decide (u.day = 0) && decide (u.sec = 0) && decide (u.base = 0)
def yearB (y : Int) : Bool := decide (-32767 < y) && decide (y < 32767)
def endB (u : UntilV) : Bool := if u.has then yearB u.year && Day.fits u.kind u.week u.day u.month && Rul.clockRight u.sec u.base else noneB u
set_option maxHeartbeats 1600000 in
theorem ends (u : UntilV) (w : World) : Calls Tryz.prog 53 #[.agg u.cells.toArray] w fun e w' => e = .returned (.bool (endB u)) ∧ Below w.heap.size w w' := by
  have ci := fun W => inside u.year W
  have cf := fun W => Day.Fits u.kind u.week u.day u.month W
  have cc := fun W => Rul.ClockRight u.sec u.base W
  rw [show (decide (-32767 < u.year) && decide (u.year < 32767)) = yearB u.year from rfl] at ci
  unfold endB UntilV.cells
  cases hh : u.has
  · rw [if_neg (by decide)]
    clear ci cf cc hh
    unfold noneB
    go_enter Tryz.func53, Tryz.ntmps53
    go_wp2
    all_goals
      go_ret
      exact ⟨ret_bool (by simp [*]), bcq⟩
  · rw [if_pos rfl]
    generalize yearB u.year = g1 at *
    generalize Day.fits u.kind u.week u.day u.month = g2 at *
    generalize Rul.clockRight u.sec u.base = g3 at *
    have Ci := Lib.hid ci
    have Cf := Lib.hid cf
    have Cc := Lib.hid cc
    clear ci cf cc hh
    go_enter Tryz.func53, Tryz.ntmps53
    go_wp2_with (first
      | (go_at_call 84;(with_reducible refine (Ci.out _).mono ?_);rintro e w' ⟨rfl, rfl⟩)
      | (go_at_call 85;(with_reducible refine (Cf.out _).mono ?_);rintro e w1 ⟨rfl, hb1⟩;obtain ⟨hc1_0, hf1_0, hz1_0⟩ := bcs hb1 (w.heap.size))
      | (go_at_call 86;(with_reducible refine (Cc.out _).mono ?_);rintro e w2 ⟨rfl, hb2⟩;obtain ⟨hc2_0, hf2_0, hz2_0⟩ := bcs hb2 (w.heap.size)))
    all_goals
      go_ret
      exact ⟨ret_bool (by simp [*]), bcq⟩
def rightB (e : EraV) : Bool := if (decide (-54000 ≤ e.off) && decide (e.off ≤ 54000)) = true ∧ Fmt.checkE e.format = 0 ∧ endB e.u = true then
    (if e.kind = 0 then decide (e.save = 0) && e.rules.toList.isEmpty else if e.kind = 1 then decide (-10800 ≤ e.save) && decide (e.save ≤ 10800) && e.rules.toList.isEmpty else if e.kind = 2 then decide (e.save = 0) && decide (Nam.nameE e.rules = 0) else false) else false
set_option maxRecDepth 100000 in
set_option maxHeartbeats 6400000 in
theorem Right (e : EraV) (he : e.Fit) (w : World) (ht : Tab w) : Calls Tryz.prog 26 #[.agg e.cells.toArray] w fun x w' => x = .returned (.bool (rightB e)) ∧ Below w.heap.size w w' := by
  have c1 := fun W => within e.off 54000 (by omega) W
  have c2 := fun W => within e.save 10800 (by omega) W
  have c3 := fun W h => Fmt.Check e.format he.f W h
  have c4 := fun W => ends e.u W
  have c5 := fun W => Nam.Name e.rules he.r W
  obtain ⟨off, kind, save, rules, format, u⟩ := e
  simp only at c1 c2 c3 c4 c5
  have hoff : I64 off := he.off
  have hsave : I64 save := he.save
  unfold rightB EraV.cells
  unfold UntilV.cells at c4
  simp only
  generalize (decide (-54000 ≤ off) && decide (off ≤ 54000)) = g1 at *
  generalize (decide (-10800 ≤ save) && decide (save ≤ 10800)) = g2 at *
  generalize Fmt.checkE format = k1 at *
  generalize endB u = g3 at *
  generalize Nam.nameE rules = k2 at *
  obtain ⟨ne, hne⟩ : ∃ x, x = rules.toList.isEmpty := ⟨_, rfl⟩
  rw [← hne]
  have es : rules.toList.isEmpty = ne := hne.symm
  obtain ⟨pe, hpe⟩ : ∃ x : Bool, x = (if g1 = true ∧ k1 = 0 ∧ g3 = true then (if kind = 0 then decide (save = 0) && ne else if kind = 1 then g2 && ne else if kind = 2 then decide (save = 0) && decide (k2 = 0) else false) else false) := ⟨_, rfl⟩
  rw [← hpe]
  have Hpe := Lib.hid hpe
  have C1 := Lib.hid c1
  have C2 := Lib.hid c2
  have C3 := Lib.hid c3
  have C4 := Lib.hid c4
  have C5 := Lib.hid c5
  have HT := Lib.hid ht
  clear hpe c1 c2 c3 c4 c5 ht hne he
  have hk : kind = 0 ∨ kind = 1 ∨ kind = 2 ∨ (¬ kind = 0 ∧ ¬ kind = 1 ∧ ¬ kind = 2) := by omega
  rcases hk with rfl|rfl|rfl|⟨k0, k1', k2'⟩
  all_goals
    go_enter Tryz.func26, Tryz.ntmps26
    go_wp2_with (first
      | (with_reducible (go_at_call 51;(with_reducible refine (C1.out _).mono ?_);rintro e w' ⟨rfl, rfl⟩))
      | (with_reducible (go_at_call 51;(with_reducible refine (C2.out _).mono ?_);rintro e w' ⟨rfl, rfl⟩))
      | (go_at_call 52;(with_reducible refine (C3.out _ ?_).mono ?_);(· exact HT.out.later bcq);rintro e w1 ⟨rfl, hb1⟩;obtain ⟨hc1_0, hf1_0, hz1_0⟩ := bcs hb1 (w.heap.size))
      | (go_at_call 53;(with_reducible refine (C4.out _).mono ?_);rintro e w2 ⟨rfl, hb2⟩;obtain ⟨hc2_0, hf2_0, hz2_0⟩ := bcs hb2 (w.heap.size))
      | (go_at_call 54;(with_reducible refine (C5.out _).mono ?_);rintro e w3 ⟨rfl, hb3⟩;obtain ⟨hc3_0, hf3_0, hz3_0⟩ := bcs hb3 (w.heap.size)))
  all_goals
    go_ret
    have hpe := Hpe.out
    simp only [*, if_true, if_false, true_and, and_true, false_and, and_false, Bool.false_eq_true, Int.reduceEq, eq_self, decide_true, decide_false, Bool.true_and, Bool.false_and] at hpe
    refine ⟨ret_bool ?_, bcq⟩
    first
      | (rw [hpe];done)
      | (rw [hpe];first
        | rfl
        | (simp [*];done)
        | (rw [Bool.eq_iff_iff];simp [*];done)
        | (rw [Bool.eq_iff_iff];simp [*];omega))
end Er
end Go.Proofs.YtecmipgpldcfcaaGreatDoor
namespace Go.Proofs.YtecmipgpldcfcaaGreatDoor
namespace Yr
def G (r : Int) : Int := r - r/1460 + r/36524 - r/146096
def F (r : Int) : Int := G r / 365
def S (y : Int) : Int := 365*y + y/4 - y/100 + y/400
theorem G_succ (r : Int) : G r ≤ G (r + 1) := by unfold G;omega
theorem G_mono (r : Int) (n : Nat) : G r ≤ G (r + n) := by
  induction n with
  | zero => simp
  | succ n ih =>
    have := G_succ (r + n)
    rw [show r + ((n + 1 : Nat) : Int) = r + n + 1 by omega]
    omega
theorem F_mono {a b : Int} (h : a ≤ b) : F a ≤ F b := by
  have := G_mono a (b - a).toNat
  rw [show a + ((b - a).toNat : Int) = b by omega] at this
  exact Int.ediv_le_ediv (by decide) this
theorem ends : ∀ y : Fin 400, F (S (y.val : Int)) = y.val ∧ F (S (y.val + 1 : Int) - 1) = y.val := by decide +kernel
theorem find (r : Int) (h0 : 0 ≤ r) : ∀ n : Nat, r < S n → ∃ y : Nat, y < n ∧ S y ≤ r ∧ r < S (y + 1 : Int)
  | 0, h => by simp [S] at h;omega
  | n + 1, h => by
    by_cases hc : r < S n
    · obtain ⟨y, h1, h2⟩ := find r h0 n hc
      exact ⟨y, by omega, h2⟩
    · exact ⟨n, by omega, by omega, by simpa using h⟩
theorem yr (r : Int) (h0 : 0 ≤ r) (h1 : r < 146097) : 0 ≤ F r ∧ F r ≤ 399 ∧ S (F r) ≤ r ∧ r < S (F r + 1) := by
  obtain ⟨y, hy, h2, h3⟩ := find r h0 400 (by have : S ((400 : Nat) : Int) = 146097 := by decide
                                              omega)
  obtain ⟨e1, e2⟩ := ends ⟨y, hy⟩
  have m1 := F_mono h2
  have m2 := F_mono (show r ≤ S (y + 1 : Int) - 1 by omega)
  simp only at e1 e2
  have : F r = y := by omega
  rw [this]
  exact ⟨by omega, by omega, h2, h3⟩
def dq (n : Int) : Int := (n + 719468) / 146097
def dr (n : Int) : Int := (n + 719468) % 146097
def dy (n : Int) : Int := F (dr n)
def dl (n : Int) : Int := dr n - (365 * dy n + dy n / 4 - dy n / 100)
def dm (n : Int) : Int := (5 * dl n + 2) / 153
def dY (n : Int) : Int := if 12 < dm n + 3 then dq n * 400 + dy n + 1 else dq n * 400 + dy n
def dM (n : Int) : Int := if 12 < dm n + 3 then dm n + 3 - 12 else dm n + 3
def dD (n : Int) : Int := dl n - (153 * dm n + 2) / 5 + 1
structure Valid (y m d : Int) : Prop where
  m1 : 1 ≤ m
  m2 : m ≤ 12
  d1 : 1 ≤ d
  d2 : d ≤ Cal.len y m
theorem dr_bd (n : Int) : 0 ≤ dr n ∧ dr n < 146097 := by unfold dr;omega
theorem lp_cycle (q y : Int) : Cal.lp (q * 400 + y + 1) = S (y + 1) - S y - 365 := by
  rw [Cal.lp_eq]
  unfold S
  have h1 : (q * 400 + y + 1) / 4 = 100 * q + (y + 1) / 4 := by omega
  have h2 : (q * 400 + y + 1) / 100 = 4 * q + (y + 1) / 100 := by omega
  have h3 : (q * 400 + y + 1) / 400 = q + (y + 1) / 400 := by omega
  have h4 : (q * 400 + y + 1 - 1) / 4 = 100 * q + y / 4 := by omega
  have h5 : (q * 400 + y + 1 - 1) / 100 = 4 * q + y / 100 := by omega
  have h6 : (q * 400 + y + 1 - 1) / 400 = q + y / 400 := by omega
  omega
theorem dl_eq (n : Int) : dl n = dr n - S (dy n) := by
  obtain ⟨h0, h1⟩ := dr_bd n
  obtain ⟨h2, h3, _, _⟩ := yr (dr n) h0 h1
  unfold dl S
  rw [show F (dr n) = dy n from rfl] at *
  have : dy n / 400 = 0 := by omega
  omega
theorem dl_bd (n : Int) : 0 ≤ dl n ∧ dl n ≤ 364 + Cal.lp (dq n * 400 + dy n + 1) := by
  obtain ⟨h0, h1⟩ := dr_bd n
  obtain ⟨h2, h3, h4, h5⟩ := yr (dr n) h0 h1
  rw [lp_cycle, dl_eq]
  rw [show F (dr n) = dy n from rfl] at *
  omega
theorem dm_bd (n : Int) : 0 ≤ dm n ∧ dm n ≤ 11 := by
  obtain ⟨h1, h2⟩ := dl_bd n
  have := Cal.lp_01 (dq n * 400 + dy n + 1)
  unfold dm;omega
theorem months0 {m : Int} (h1 : 0 ≤ m) (h2 : m ≤ 11) : m = 0 ∨ m = 1 ∨ m = 2 ∨ m = 3 ∨ m = 4 ∨ m = 5 ∨ m = 6 ∨ m = 7 ∨ m = 8 ∨ m = 9 ∨ m = 10 ∨ m = 11 := by omega
theorem valid (n : Int) : Valid (dY n) (dM n) (dD n) := by
  obtain ⟨h1, h2⟩ := dl_bd n
  have := Cal.lp_01 (dq n * 400 + dy n + 1)
  obtain ⟨h4, h5⟩ := dm_bd n
  have hd : dm n = (5 * dl n + 2) / 153 := rfl
  have hM : 1 ≤ dM n ∧ dM n ≤ 12 := by unfold dM;split <;> omega
  refine ⟨hM.1, hM.2, by unfold dD;omega, ?_⟩
  unfold dY dM dD Cal.len
  rcases months0 h4 h5 with h|h|h|h|h|h|h|h|h|h|h|h <;> rw [h] at hd ⊢ <;> simp <;> omega
theorem days_of (n : Int) : Cal.days (dY n) (dM n) (dD n) = n := by
  have hv := valid n
  rw [← Cal.number_eq _ _ _ hv.m1 hv.m2]
  obtain ⟨h4, h5⟩ := dm_bd n
  obtain ⟨g0, g1⟩ := dr_bd n
  obtain ⟨g2, g3, _, _⟩ := yr (dr n) g0 g1
  rw [show F (dr n) = dy n from rfl] at *
  have e0 : Cal.y0 (dY n) (dM n) = dq n * 400 + dy n := by unfold Cal.y0 dY dM;split <;> split <;> omega
  have e1 : Cal.m0 (dM n) = dm n := by unfold Cal.m0 dM;split <;> split <;> omega
  unfold Cal.number
  rw [e0, e1]
  have e2 : (dq n * 400 + dy n) / 400 = dq n := by omega
  have e3 : (dq n * 400 + dy n) % 400 = dy n := by omega
  rw [e2, e3]
  have e4 : dr n + 146097 * dq n = n + 719468 := by unfold dr dq;omega
  unfold dD dl
  omega
theorem ahead_le {y m d : Int} (h : Valid y m d) : Cal.ahead y ≤ Cal.days y m d ∧ Cal.days y m d < Cal.ahead (y + 1) := by
  have h1 := Cal.cum_bd y m h.m1 h.m2
  have h2 := Cal.ahead_succ y
  obtain ⟨_, _, _, _⟩ := h
  unfold Cal.days
  omega
theorem cum_mono {y m k : Int} (h1 : 1 ≤ m) (h2 : k ≤ 12) (h : m < k) : Cal.cum y m + Cal.len y m ≤ Cal.cum y k := by
  have := Cal.lp_01 y
  rw [← Cal.cum_succ y m h1 (by omega)]
  unfold Cal.cum
  rcases Cal.months h1 (by omega : m ≤ 12) with rfl|rfl|rfl|rfl|rfl|rfl|rfl|rfl|rfl|rfl|rfl|rfl <;>
    rcases Cal.months (m := k) (by omega) h2 with rfl|rfl|rfl|rfl|rfl|rfl|rfl|rfl|rfl|rfl|rfl|rfl <;> simp at h ⊢ <;> omega
theorem year_of (n : Int) : Cal.ahead (dY n) ≤ n ∧ n < Cal.ahead (dY n + 1) := by
  have := ahead_le (valid n)
  rwa [days_of] at this
end Yr
end Go.Proofs.YtecmipgpldcfcaaGreatDoor
namespace Go.Proofs.YtecmipgpldcfcaaGreatDoor
open Go.RowKit NB
namespace Stp
theorem dq_bd (n : Int) (h0 : -16000000 ≤ n) (h1 : n ≤ 16000000) : -200 ≤ Yr.dq n ∧ Yr.dq n ≤ 200 := by unfold Yr.dq;omega
set_option maxHeartbeats 1600000 in
theorem date (n : Int) (h0 : -16000000 ≤ n) (h1 : n ≤ 16000000) (w : World) :
    Calls Tryz.prog 218 #[.int .i64 n] w fun e w' => e = .returned (.agg #[.int .i64 (Yr.dY n), .int .i64 (Yr.dM n), .int .i64 (Yr.dD n)]) ∧ Below w.heap.size w w' := by
  obtain ⟨q0, q1⟩ := dq_bd n h0 h1
  obtain ⟨r0, r1⟩ := Yr.dr_bd n
  obtain ⟨y0, y1, _, _⟩ := Yr.yr (Yr.dr n) r0 r1
  obtain ⟨l0, l1⟩ := Yr.dl_bd n
  have l2 := (Cal.lp_01 (Yr.dq n * 400 + Yr.dy n + 1)).2
  have l3 : Yr.dl n ≤ 365 := by omega
  clear l1 l2
  rw [show Yr.F (Yr.dr n) = Yr.dy n from rfl] at y0 y1
  have hy : Yr.dy n = (Yr.dr n - Yr.dr n / 1460 + Yr.dr n / 36524 - Yr.dr n / 146096) / 365 := rfl
  have hl : Yr.dl n = Yr.dr n - (365 * Yr.dy n + Yr.dy n / 4 - Yr.dy n / 100) := rfl
  have hd := Num.Div (n + 719468) 146097 (by omega) (by omega) (by omega) (by omega)
  rw [show (n + 719468) / 146097 = Yr.dq n from rfl, show (n + 719468) % 146097 = Yr.dr n from rfl] at hd
  have Hd := Lib.hid hd
  clear hd
  unfold Yr.dY Yr.dM Yr.dD Yr.dm
  generalize Yr.dq n = q at *
  generalize Yr.dr n = r at *
  generalize Yr.dy n = y at *
  generalize Yr.dl n = l at *
  have Hy := Lib.hid hy
  have Hl := Lib.hid hl
  clear hy hl
  by_cases hm : 12 < (5 * l + 2) / 153 + 3
  · rw [if_pos hm, if_pos hm]
    go_enter Tryz.func218, Tryz.ntmps218
    go_upto_region 3 with (go_at_call 216;(with_reducible refine (Hd.out _).mono ?_);rintro e w1 ⟨rfl, hb1⟩;obtain ⟨hc1_0, hf1_0, hz1_0⟩ := bcs hb1 (w.heap.size))
    rw [← Hy.out]
    go_upto_region 4 with fail
    rw [← Hl.out]
    go_wp2_with (go_at_call 217;(with_reducible refine (Civ.march _ (by omega) (by omega) _).mono ?_);rintro e w' ⟨rfl, rfl⟩)
    refine bodyPost_ret (v := .agg #[.int .i64 (q * 400 + y + 1), .int .i64 ((5 * l + 2) / 153 + 3 - 12), .int .i64 (l - (153 * ((5 * l + 2) / 153) + 2) / 5 + 1)]) ?_ rfl ⟨rfl, ?_⟩
    · simp only [results, Tryz.results218]
      go_simp
    · exact bcq
  · rw [if_neg hm, if_neg hm]
    go_enter Tryz.func218, Tryz.ntmps218
    go_upto_region 3 with (go_at_call 216;(with_reducible refine (Hd.out _).mono ?_);rintro e w1 ⟨rfl, hb1⟩;obtain ⟨hc1_0, hf1_0, hz1_0⟩ := bcs hb1 (w.heap.size))
    rw [← Hy.out]
    go_upto_region 4 with fail
    rw [← Hl.out]
    go_wp2_with (go_at_call 217;(with_reducible refine (Civ.march _ (by omega) (by omega) _).mono ?_);rintro e w' ⟨rfl, rfl⟩)
    refine bodyPost_ret (v := .agg #[.int .i64 (q * 400 + y), .int .i64 ((5 * l + 2) / 153 + 3), .int .i64 (l - (153 * ((5 * l + 2) / 153) + 2) / 5 + 1)]) ?_ rfl ⟨rfl, ?_⟩
    · simp only [results, Tryz.results218]
      go_simp
    · exact bcq
def zeroD : Value := .tuple #[.agg #[.int .i64 0, .int .i64 0, .int .i64 0], .int .i64 1]
def okD (n : Int) : Bool := decide (-16000000 ≤ n) && decide (n ≤ 16000000) && Civ.right (Yr.dY n) (Yr.dM n) (Yr.dD n)
set_option maxHeartbeats 1600000 in
theorem Date (n : Int) (w : World) :
    Calls Tryz.prog 187 #[.int .i64 n] w fun e w' => e = .returned (if okD n then .tuple #[.agg #[.int .i64 (Yr.dY n), .int .i64 (Yr.dM n), .int .i64 (Yr.dD n)], .int .i64 0] else .tuple #[.agg #[.int .i64 0, .int .i64 0, .int .i64 0], .int .i64 1]) ∧ Below w.heap.size w w' := by
  unfold okD
  by_cases h0 : n < -16000000
  · rw [decide_eq_false (by omega : ¬ -16000000 ≤ n)]
    simp only [Bool.false_and, Bool.false_eq_true, if_false]
    go_enter Tryz.func187, Tryz.ntmps187
    go_wp2
    refine bodyPost_ret (v := .tuple #[.agg #[.int .i64 0, .int .i64 0, .int .i64 0], .int .i64 1]) ?_ rfl ⟨rfl, ?_⟩
    · simp only [results, Tryz.results187]
      go_simp
    · exact bcq
  · rw [decide_eq_true (by omega : -16000000 ≤ n)]
    by_cases h1 : n > 16000000
    · rw [decide_eq_false (by omega : ¬ n ≤ 16000000)]
      simp only [Bool.false_and, Bool.and_false, Bool.false_eq_true, if_false]
      go_enter Tryz.func187, Tryz.ntmps187
      go_wp2
      refine bodyPost_ret (v := .tuple #[.agg #[.int .i64 0, .int .i64 0, .int .i64 0], .int .i64 1]) ?_ rfl ⟨rfl, ?_⟩
      · simp only [results, Tryz.results187]
        go_simp
      · exact bcq
    · rw [decide_eq_true (by omega : n ≤ 16000000)]
      have cd := date n (by omega) (by omega)
      have cr := Civ.Right (Yr.dY n) (Yr.dM n) (Yr.dD n)
      generalize Yr.dY n = Y at *
      generalize Yr.dM n = M at *
      generalize Yr.dD n = D at *
      cases hr : Civ.right Y M D
      all_goals
        rw [hr] at cr
        have Cd := Lib.hid cd
        have Cr := Lib.hid cr
        clear cd cr hr
        simp only [Bool.and_true, Bool.and_false, Bool.false_eq_true, if_false, if_true]
        go_enter Tryz.func187, Tryz.ntmps187
        go_wp2_with (first|(go_at_call 218;(with_reducible refine (Cd.out _).mono ?_);rintro e w1 ⟨rfl, hb1⟩;obtain ⟨hc1_0, hf1_0, hz1_0⟩ := bcs hb1 (w.heap.size))|(go_at_call 182;(with_reducible refine (Cr.out _).mono ?_);rintro e w2 ⟨rfl, hb2⟩;obtain ⟨hc2_0, hf2_0, hz2_0⟩ := bcs hb2 (w.heap.size);obtain ⟨hc2_1, hf2_1, hz2_1⟩ := bcs hb2 (w1.heap.size)))
      · refine bodyPost_ret (v := .tuple #[.agg #[.int .i64 0, .int .i64 0, .int .i64 0], .int .i64 1]) ?_ rfl ⟨rfl, ?_⟩
        · simp only [results, Tryz.results187]
          go_simp
        · exact bcq
      · refine bodyPost_ret (v := .tuple #[.agg #[.int .i64 Y, .int .i64 M, .int .i64 D], .int .i64 0]) ?_ rfl ⟨rfl, ?_⟩
        · simp only [results, Tryz.results187]
          go_simp
        · exact bcq
theorem Split (t : Int) (h0 : -9223372036854775808 < t) (h1 : t ≤ 9223372036854775807) (w : World) :
    Calls Tryz.prog 186 #[.int .i64 t] w fun e w' => e = .returned (.tuple #[.int .i64 (t / 86400), .int .i64 (t % 86400)]) ∧ Below w.heap.size w w' := by
  have hd := Num.Div t 86400 h0 h1 (by omega) (by omega)
  have Hd := Lib.hid hd
  clear hd
  go_enter Tryz.func186, Tryz.ntmps186
  go_wp2_with (go_at_call 216;(with_reducible refine (Hd.out _).mono ?_);rintro e w1 ⟨rfl, hb1⟩;obtain ⟨hc1, hf1⟩ := bcell hb1)
  go_ret2
  exact ⟨rfl, hb1⟩
def stampOf (t : Int) : List Value := [.int .i64 (Yr.dY (t / 86400)), .int .i64 (Yr.dM (t / 86400)), .int .i64 (Yr.dD (t / 86400)), .int .i64 (t % 86400 / 3600), .int .i64 (t % 86400 % 3600 / 60), .int .i64 (t % 86400 % 60)]
set_option maxHeartbeats 1600000 in
theorem Of (t : Int) (h0 : -9223372036854775808 < t) (h1 : t ≤ 9223372036854775807) (w : World) :
    Calls Tryz.prog 143 #[.int .i64 t] w fun e w' => e = .returned (if okD (t / 86400) then .tuple #[.agg (stampOf t).toArray, .int .i64 0] else .tuple #[.agg #[.int .i64 0, .int .i64 0, .int .i64 0, .int .i64 0, .int .i64 0, .int .i64 0], .int .i64 1]) ∧ Below w.heap.size w w' := by
  have cs := Split t h0 h1
  have cd := Date (t / 86400)
  unfold stampOf
  have s0 := Int.emod_nonneg t (show (86400 : Int) ≠ 0 by decide)
  have s1 := Int.emod_lt_of_pos t (show (0 : Int) < 86400 by decide)
  generalize t / 86400 = d at *
  generalize t % 86400 = s at *
  generalize Yr.dY d = Y at *
  generalize Yr.dM d = M at *
  generalize Yr.dD d = D at *
  cases hk : okD d
  all_goals
    rw [hk] at cd
    simp only [Bool.false_eq_true, if_false, if_true] at cd ⊢
    have Cd := Lib.hid cd
    have Cs := Lib.hid cs
    clear cd cs hk
    go_enter Tryz.func143, Tryz.ntmps143
    go_wp2_with (first|(go_at_call 186;(with_reducible refine (Cs.out _).mono ?_);rintro e w1 ⟨rfl, hb1⟩;obtain ⟨hc1_0, hf1_0, hz1_0⟩ := bcs hb1 (w.heap.size))|(go_at_call 187;(with_reducible refine (Cd.out _).mono ?_);rintro e w2 ⟨rfl, hb2⟩;obtain ⟨hc2_0, hf2_0, hz2_0⟩ := bcs hb2 (w.heap.size)))
  · refine bodyPost_ret (v := .tuple #[.agg #[.int .i64 0, .int .i64 0, .int .i64 0, .int .i64 0, .int .i64 0, .int .i64 0], .int .i64 1]) ?_ rfl ⟨rfl, ?_⟩
    · simp only [results, Tryz.results143]
      go_simp
    · exact bcq
  · refine bodyPost_ret (v := .tuple #[.agg #[.int .i64 Y, .int .i64 M, .int .i64 D, .int .i64 (s / 3600), .int .i64 (s % 3600 / 60), .int .i64 (s % 60)], .int .i64 0]) ?_ rfl ⟨rfl, ?_⟩
    · simp only [results, Tryz.results143]
      go_simp
    · exact bcq
end Stp
end Go.Proofs.YtecmipgpldcfcaaGreatDoor
