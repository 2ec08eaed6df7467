import Derived.Test.YtcfmchpoclkpgaaGreatDoorG4
import Derived.Test.YtcfmchpoclkpgaaGreatDoorG2
namespace Go.Proofs.YtcfmchpoclkpgaaGreatDoor
open Go.RowKit NB
namespace Day
def winLow (k d m : Int) : Int := if k = 1 then Cal.len 1 m - 6 else if k = 3 then d - 6 else d
def winHigh (k d m : Int) : Int := if k = 1 then Cal.len 4 m else if k = 2 then d + 6 else d
theorem kinds {k wk d m : Int} (h : fits k wk d m = true) : k = 1 ∨ k = 0 ∨ k = 2 ∨ k = 3 := by
  obtain ⟨_, _, _, h⟩ := fits_spec h
  omega
theorem days31 {k wk d m : Int} (h : fits k wk d m = true) : 0 ≤ d ∧ d ≤ 31 ∧ 0 ≤ wk ∧ wk ≤ 6 := by
  obtain ⟨_, _, _, h⟩ := fits_spec h
  omega

set_option maxHeartbeats 800000 in
theorem Window (k wk d m : Int) (w : World) : Calls Tryz.prog 195 #[.agg #[.int .i64 k, .int .i64 wk, .int .i64 d], .int .i64 m] w fun e w' =>
    e = .returned (if fits k wk d m then .tuple #[.int .i64 (winLow k d m), .int .i64 (winHigh k d m), .int .i64 0] else .tuple #[.int .i64 0, .int .i64 0, .int .i64 4]) ∧ Below w.heap.size w w' := by
  cases h1 : fits k wk d m
  case false =>
    have H1 := Lib.hid h1;clear h1
    go_enter Tryz.func195, Tryz.ntmps195
    go_wp2_with (go_at_call 129;refine (Fits _ _ _ _ _).mono ?_;rw [H1.out];rintro e w1 ⟨rfl, hb⟩)
    go_ret3
    exact ⟨rfl, ((Below.refl _ _).alloc (Nat.le_refl _) _).trans (hb.mono (by simp))⟩
  case true =>
    have hk := kinds h1
    obtain ⟨d0, d1, w0, w1⟩ := days31 h1
    have H1 := Lib.hid h1;clear h1
    have l1 := Cal.len_le 1 m
    have l4 := Cal.len_le 4 m
    rcases hk with rfl|rfl|rfl|rfl
    all_goals
      unfold winLow winHigh
      rw [if_pos rfl]
      simp only [Int.reduceEq, if_true, if_false]
      go_enter Tryz.func195, Tryz.ntmps195
      go_wp2_with (go_at_call 129;refine (Fits _ _ _ _ _).mono ?_;rw [H1.out];rintro e w1 ⟨rfl, hb⟩;obtain ⟨hc, hfz⟩ := bcell hb)
      go_quiet (fail)
      go_wp2_with (go_at_call 193;refine (Civ.Len _ _ _).mono ?_;rintro e w1 ⟨rfl, rfl⟩)
      go_ret3
      exact ⟨ret_iii (by omega) (by omega) rfl, below_drewN (((Below.refl _ _).alloc (Nat.le_refl _) _).trans (hb.mono (by simp))) _⟩

def dayI (k wk d y m : Int) : Int :=
  if k = 1 then (Cal.days y m 1 + Cal.len y m - 1) - backI (Cal.days y m 1 + Cal.len y m - 1) wk
  else if k = 2 then (Cal.days y m 1 + d - 1) + (6 - backI (Cal.days y m 1 + d - 1 + 6) wk)
  else if k = 3 then (Cal.days y m 1 + d - 1) - backI (Cal.days y m 1 + d - 1) wk
  else Cal.days y m 1 + d - 1
theorem backI_bd (n wk : Int) : 0 ≤ backI n wk ∧ backI n wk ≤ 6 := by unfold backI;omega
theorem right_first {y m : Int} (h1 : -40000 ≤ y) (h2 : y ≤ 40000) (h3 : 1 ≤ m) (h4 : m ≤ 12) : Civ.right y m 1 = true := by
  have := Cal.len_bd y m h3 h4
  unfold Civ.right
  simp only [Bool.and_eq_true, decide_eq_true_eq]
  omega
theorem first_bd {y m : Int} (h1 : -40000 ≤ y) (h2 : y ≤ 40000) (h3 : 1 ≤ m) (h4 : m ≤ 12) : -16000000 ≤ Cal.days y m 1 ∧ Cal.days y m 1 ≤ 16000000 := by
  have := Cal.ahead_bd y (by omega) (by omega)
  have := Cal.cum_bd y m h3 h4
  have := Cal.len_bd y m h3 h4
  have := Cal.lp_01 y
  unfold Cal.days;omega

theorem back' (n wk : Int) (h0 : -9000000000000000000 ≤ n) (h1 : n ≤ 9000000000000000000) (h2 : 0 ≤ wk) (h3 : wk ≤ 6) (w : World) :
    Calls Tryz.prog 234 #[.int .i64 n, .int .i64 wk] w fun e w' => ∃ r, e = .returned (.int .i64 r) ∧ r = backI n wk ∧ 0 ≤ r ∧ r ≤ 6 ∧ Below w.heap.size w w' :=
  (back n wk h0 h1 h2 h3 w).mono fun _ _ ⟨he, hb⟩ => ⟨_, he, rfl, (backI_bd n wk).1, (backI_bd n wk).2, hb⟩

set_option maxHeartbeats 1600000 in
theorem Days (k wk d y m : Int) (w : World) : Calls Tryz.prog 174 #[.agg #[.int .i64 k, .int .i64 wk, .int .i64 d], .int .i64 y, .int .i64 m] w fun e w' =>
    e = .returned (if fits k wk d m then (if -39999 ≤ y ∧ y ≤ 39999 then .tuple #[.int .i64 (dayI k wk d y m), .int .i64 0] else .tuple #[.int .i64 0, .int .i64 1]) else .tuple #[.int .i64 0, .int .i64 4]) ∧ Below w.heap.size w w' := by
  cases h1 : fits k wk d m
  case false =>
    have H1 := Lib.hid h1;clear h1
    go_enter Tryz.func174, Tryz.ntmps174
    go_wp2_with (go_at_call 129;refine (Fits _ _ _ _ _).mono ?_;rw [H1.out];rintro e w1 ⟨rfl, hb⟩)
    go_ret2
    exact ⟨rfl, ((Below.refl _ _).alloc (Nat.le_refl _) _).trans (hb.mono (by simp))⟩
  case true =>
    by_cases hy : -39999 ≤ y ∧ y ≤ 39999
    case neg =>
      have H1 := Lib.hid h1;clear h1
      have hw : (decide (-39999 ≤ y) && decide (y ≤ 39999)) = false := by
        rw [Bool.eq_false_iff];intro h;simp only [Bool.and_eq_true, decide_eq_true_eq] at h;exact hy h
      have HW := Lib.hid hw;clear hw
      rw [if_pos rfl, if_neg hy]
      clear hy
      go_enter Tryz.func174, Tryz.ntmps174
      go_wp2_with (first|(go_at_call 129;refine (Fits _ _ _ _ _).mono ?_;rw [H1.out];rintro e w1 ⟨rfl, hb⟩;obtain ⟨hc, hfz⟩ := bcell hb)|(go_at_call 192;refine (within _ _ _ _).mono ?_;rw [HW.out];rintro e w2 ⟨rfl, rfl⟩))
      go_ret2
      exact ⟨rfl, ((Below.refl _ _).alloc (Nat.le_refl _) _).trans (hb.mono (by simp))⟩
    case pos =>
      rw [if_pos rfl, if_pos hy]
      have hk := kinds h1
      obtain ⟨d0, d1, w0, w1⟩ := days31 h1
      obtain ⟨m0, m1, _, _⟩ := fits_spec h1
      obtain ⟨y0, y1⟩ := hy
      have H1 := Lib.hid h1;clear h1
      have hw : (decide (-39999 ≤ y) && decide (y ≤ 39999)) = true := by
        simp only [Bool.and_eq_true, decide_eq_true_eq];exact ⟨y0, y1⟩
      have HW := Lib.hid hw;clear hw
      have HR := Lib.hid (right_first (y := y) (m := m) (by omega) (by omega) m0 m1)
      have fb := first_bd (y := y) (m := m) (by omega) (by omega) m0 m1
      have l1 := Cal.len_le y m
      unfold dayI
      generalize hF : Cal.days y m 1 = F at *
      have HF := Lib.hid hF;clear hF
      rcases hk with rfl|rfl|rfl|rfl
      all_goals
        simp only [Int.reduceEq, if_true, if_false]
        go_enter Tryz.func174, Tryz.ntmps174
        go_wp2_with (first|(go_at_call 129;refine (Fits _ _ _ _ _).mono ?_;rw [H1.out];rintro e w1 ⟨rfl, hb⟩;obtain ⟨hc, hfz⟩ := bcell hb;have hz : w.heap.size < w1.heap.size := by (have := hb.size;simp at this;omega))|(go_at_call 192;refine (within _ _ _ _).mono ?_;rw [HW.out];rintro e w2 ⟨rfl, rfl⟩)|(go_at_call 233;refine (Civ.Days _ _ _ _).mono ?_;rw [HR.out, if_pos rfl, HF.out];rintro e w3 ⟨rfl, hb3⟩;obtain ⟨hc3, hfz3⟩ := bcell hb3;have hz3 := hb3.size)|(go_at_call 193;refine (Civ.Len _ _ _).mono ?_;rintro e w5 ⟨rfl, rfl⟩)|(go_at_call 234;refine (back' _ _ (by omega) (by omega) (by omega) (by omega) _).mono ?_;rintro e w4 ⟨r, rfl, hr, r0, r1, hb4⟩;have HR4 := Lib.hid hr;clear hr))
        go_ret2
        first
          | (refine ⟨ret_ii ?_ rfl, ((((Below.refl _ _).alloc (Nat.le_refl _) _).trans (hb.mono (by simp))).trans (hb3.mono (by omega))).trans (hb4.mono (by omega))⟩
             first|(rw [HR4.out];done)|(rw [HR4.out];omega)|(rw [HR4.out, show F + d - 1 + 6 = F + d - 1 + 7 - 1 by omega]))
          | exact ⟨ret_ii (by omega) rfl, (((Below.refl _ _).alloc (Nat.le_refl _) _).trans (hb.mono (by simp))).trans (hb3.mono (by omega))⟩
end Day
end Go.Proofs.YtcfmchpoclkpgaaGreatDoor
namespace Go.Proofs.YtcfmchpoclkpgaaGreatDoor
open Go.RowKit NB
structure RuleV where
  name : ByteArray
  fr : Int
  «to» : Int
  month : Int
  kind : Int
  week : Int
  day : Int
  sec : Int
  base : Int
  save : Int
  letter : ByteArray
deriving DecidableEq
def RuleV.cells (r : RuleV) : List Value := [.string r.name, .int .i64 r.fr, .int .i64 r.to, .int .i64 r.month, .int .i64 r.kind, .int .i64 r.week, .int .i64 r.day, .int .i64 r.sec, .int .i64 r.base, .int .i64 r.save, .string r.letter]
def I64 (n : Int) : Prop := -9223372036854775808 ≤ n ∧ n ≤ 9223372036854775807
structure RuleV.Fit (r : RuleV) : Prop where
  n : r.name.size ≤ 9223372036854775807
  l : r.letter.size ≤ 9223372036854775807
  fr : I64 r.fr
  «to» : I64 r.to
  sec : I64 r.sec
  save : I64 r.save
namespace Rul
def may (y : Int) : Bool := decide (-32767 ≤ y) && decide (y ≤ 32767)
theorem mayC (y : Int) (w : World) : Calls Tryz.prog 188 #[.int .i64 y] w fun e w' => e = .returned (.bool (may y)) ∧ w = w' := by
  unfold may
  go_enter Tryz.func188, Tryz.ntmps188
  go_wp2
  all_goals
    go_ret
    refine ⟨ret_bool ?_, rfl⟩
    simp [*]
    try omega
def StrErr (err : Int) (w : World) (e : Ending) (w' : World) : Prop := ∃ s : ByteArray, e = .returned (.tuple #[.string s, .int .i64 err]) ∧ Below w.heap.size w w'
def frErr (y : Int) : Int := if may y then 0 else 1
def toErr (fr y : Int) : Int := if may y then (if y < fr then 14 else 0) else 1
theorem FromText (y : Int) (hy : I64 y) (w : World) : Calls Tryz.prog 127 #[.int .i64 y] w (StrErr (frErr y) w) := by
  obtain ⟨y0, y1⟩ := hy
  unfold frErr
  cases hm : may y
  · have Hm := Lib.hid hm;clear hm
    rw [if_neg (by decide)]
    go_enter Tryz.func127, Tryz.ntmps127
    go_wp2_with (go_at_call 188;refine (mayC _ _).mono ?_;rw [Hm.out];rintro e w' ⟨rfl, rfl⟩)
    go_ret2
    exact ⟨_, rfl, Below.refl _ _⟩
  · have Hm := Lib.hid hm;clear hm
    rw [if_pos rfl]
    go_enter Tryz.func127, Tryz.ntmps127
    go_wp2_with (first|(go_at_call 188;refine (mayC _ _).mono ?_;rw [Hm.out];rintro e w' ⟨rfl, rfl⟩)|(go_at_call 189;refine (Txt.Text _ (by omega) (by omega) _).mono ?_;rintro e w2 ⟨r, rfl, hb⟩))
    · go_ret2
      exact ⟨_, rfl, Below.refl _ _⟩
    · go_ret2
      exact ⟨_, rfl, hb⟩
theorem ToText (fr y : Int) (hy : I64 y) (w : World) : Calls Tryz.prog 126 #[.int .i64 fr, .int .i64 y] w (StrErr (toErr fr y) w) := by
  obtain ⟨y0, y1⟩ := hy
  unfold toErr
  cases hm : may y
  · have Hm := Lib.hid hm;clear hm
    rw [if_neg (by decide)]
    go_enter Tryz.func126, Tryz.ntmps126
    go_wp2_with (go_at_call 188;refine (mayC _ _).mono ?_;rw [Hm.out];rintro e w' ⟨rfl, rfl⟩)
    go_ret2
    exact ⟨_, rfl, Below.refl _ _⟩
  · have Hm := Lib.hid hm;clear hm
    rw [if_pos rfl]
    by_cases hlt : y < fr
    · rw [if_pos hlt]
      go_enter Tryz.func126, Tryz.ntmps126
      go_wp2_with (go_at_call 188;refine (mayC _ _).mono ?_;rw [Hm.out];rintro e w' ⟨rfl, rfl⟩)
      go_ret2
      exact ⟨_, rfl, Below.refl _ _⟩
    · rw [if_neg hlt]
      go_enter Tryz.func126, Tryz.ntmps126
      go_wp2_with (first|(go_at_call 188;refine (mayC _ _).mono ?_;rw [Hm.out];rintro e w' ⟨rfl, rfl⟩)|(go_at_call 189;refine (Txt.Text _ (by omega) (by omega) _).mono ?_;rintro e w2 ⟨r, rfl, hb⟩))
      all_goals
        go_ret2
        first
          | exact ⟨_, rfl, hb⟩
          | exact ⟨_, rfl, Below.refl _ _⟩
def clockRight (sec base : Int) : Bool := decide (0 ≤ base ∧ base ≤ 2 ∧ 0 ≤ sec ∧ sec ≤ 172800)
theorem ClockRight (sec base : Int) (w : World) : Calls Tryz.prog 130 #[.agg #[.int .i64 sec, .int .i64 base]] w fun e w' => e = .returned (.bool (clockRight sec base)) ∧ Below w.heap.size w w' := by
  go_enter Tryz.func130, Tryz.ntmps130
  go_wp2
  all_goals
    go_ret
    refine ⟨ret_bool ?_, (Below.refl _ _).alloc (Nat.le_refl _) _⟩
    unfold clockRight
    rw [Bool.eq_iff_iff]
    simp only [beq_iff_eq, beq_eq_false_iff_ne, ne_eq, decide_eq_true_eq, Bool.false_eq_true, false_iff] at *
    omega
def saves (n : Int) : Bool := decide (-10800 ≤ n) && decide (n ≤ 10800)
theorem Saves (n : Int) (w : World) : Calls Tryz.prog 131 #[.int .i64 n] w fun e w' => e = .returned (.bool (saves n)) ∧ w = w' := by
  unfold saves
  go_enter Tryz.func131, Tryz.ntmps131
  go_wp2
  all_goals
    go_ret
    refine ⟨ret_bool ?_, rfl⟩
    simp [*]
    try omega
def letErr (s : ByteArray) : Int := if Fmt.letterOK s then 0 else 4
theorem LetterText' (s : ByteArray) (hs : s.size ≤ 9223372036854775807) (w : World) : Calls Tryz.prog 128 #[.string s] w fun e w' => e = .returned (.tuple #[.string (Fmt.ltext s), .int .i64 (letErr s)]) ∧ Below w.heap.size w w' := Fmt.LetterText s hs w
def right (r : RuleV) : Bool := ((toErr r.fr r.to == 0) && (frErr r.fr == 0) && (letErr r.letter == 0)) && (Nam.nameE r.name == 0) && Day.fits r.kind r.week r.day r.month && clockRight r.sec r.base && saves r.save

set_option maxHeartbeats 3200000 in
theorem Right (r : RuleV) (hr : r.Fit) (w : World) : Calls Tryz.prog 76 #[.agg r.cells.toArray] w fun e w' => e = .returned (.bool (right r)) ∧ Below w.heap.size w w' := by
  obtain ⟨hn, hl, hfr, hto, hsec, hsave⟩ := hr
  have Hfr := Lib.hid hfr
  have Hto := Lib.hid hto
  clear hfr hto hsec hsave
  unfold RuleV.cells
  go_enter Tryz.func76, Tryz.ntmps76
  go_wp2_with (first
    | (go_at_call 126;refine (ToText _ _ Hto.out _).mono ?_;rintro e w1 ⟨s1, rfl, hb1⟩;obtain ⟨hc1, hf1⟩ := bcell hb1;have hz1 : w.heap.size < w1.heap.size := by (have := hb1.size;simp at this;omega))
    | (go_at_call 127;refine (FromText _ Hfr.out _).mono ?_;rintro e w2 ⟨s2, rfl, hb2⟩;obtain ⟨hc2, hf2⟩ := bcell hb2;have hz2 : w.heap.size < w2.heap.size := by (have := hb2.size;omega))
    | (go_at_call 128;refine (LetterText' _ hl _).mono ?_;rintro e w3 ⟨rfl, hb3⟩;obtain ⟨hc3, hf3⟩ := bcell hb3;have hz3 : w.heap.size < w3.heap.size := by (have := hb3.size;omega))
    | (go_at_call 117;refine (Nam.Name _ hn _).mono ?_;rintro e w4 ⟨rfl, hb4⟩;obtain ⟨hc4, hf4⟩ := bcell hb4;have hz4 : w.heap.size < w4.heap.size := by (have := hb4.size;omega))
    | (go_at_call 129;refine (Day.Fits _ _ _ _ _).mono ?_;rintro e w5 ⟨rfl, hb5⟩;obtain ⟨hc5, hf5⟩ := bcell hb5;have hz5 : w.heap.size < w5.heap.size := by (have := hb5.size;omega))
    | (go_at_call 130;refine (ClockRight _ _ _).mono ?_;rintro e w6 ⟨rfl, hb6⟩;obtain ⟨hc6, hf6⟩ := bcell hb6;have hz6 : w.heap.size < w6.heap.size := by (have := hb6.size;omega))
    | (go_at_call 131;refine (Saves _ _).mono ?_;rintro e w7 ⟨rfl, rfl⟩))
  all_goals
    go_ret
    refine ⟨ret_bool ?_, ?_⟩
    · simp [right, *]
    · first
        | exact ((((((((Below.refl _ _).alloc (Nat.le_refl _) _).trans (hb1.mono (by simp))).trans (hb2.mono (by omega))).trans (hb3.mono (by omega))).trans (hb4.mono (by omega))).trans (hb5.mono (by omega))).trans (hb6.mono (by omega)))
        | exact (((((((Below.refl _ _).alloc (Nat.le_refl _) _).trans (hb1.mono (by simp))).trans (hb2.mono (by omega))).trans (hb3.mono (by omega))).trans (hb4.mono (by omega))).trans (hb5.mono (by omega)))
        | exact ((((((Below.refl _ _).alloc (Nat.le_refl _) _).trans (hb1.mono (by simp))).trans (hb2.mono (by omega))).trans (hb3.mono (by omega))).trans (hb4.mono (by omega)))
        | exact (((((Below.refl _ _).alloc (Nat.le_refl _) _).trans (hb1.mono (by simp))).trans (hb2.mono (by omega))).trans (hb3.mono (by omega)))
end Rul
end Go.Proofs.YtcfmchpoclkpgaaGreatDoor
