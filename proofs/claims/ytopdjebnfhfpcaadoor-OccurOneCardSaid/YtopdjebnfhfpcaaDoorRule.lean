/-
  year, clock and rule: which rules may be, as the program runs them.
-/
import Derived.Test.YtopdjebnfhfpcaaDoorText
import Derived.Test.YtopdjebnfhfpcaaDoorName
import Derived.Test.YtopdjebnfhfpcaaDoorFmt
import Derived.Test.YtopdjebnfhfpcaaDoorDayB
namespace Go.Proofs.YtopdjebnfhfpcaaDoor
open Go.RowKit NB
/-- A rule, as plain data. -/
structure RuleV where
  name : ByteArray
  fr : Int
  to : Int
  month : Int
  kind : Int
  week : Int
  day : Int
  sec : Int
  base : Int
  save : Int
  letter : ByteArray
def RuleV.cells (r : RuleV) : List Value := [.string r.name, .int .i64 r.fr, .int .i64 r.to, .int .i64 r.month, .int .i64 r.kind, .int .i64 r.week, .int .i64 r.day, .int .i64 r.sec, .int .i64 r.base, .int .i64 r.save, .string r.letter]
def I64 (n : Int) : Prop := -9223372036854775808 ≤ n ∧ n ≤ 9223372036854775807
/-- what a rule's parts may hold, whatever it is -/
structure RuleV.Fit (r : RuleV) : Prop where
  n : r.name.size ≤ 9223372036854775807
  l : r.letter.size ≤ 9223372036854775807
  fr : I64 r.fr
  to : I64 r.to
  sec : I64 r.sec
  save : I64 r.save
namespace Rul
def may (y : Int) : Bool := decide (-32767 ≤ y) && decide (y ≤ 32767)
theorem mayC (y : Int) (w : World) : Calls Tryd.prog 76 #[.int .i64 y] w fun e w' => e = .returned (.bool (may y)) ∧ w = w' := by
  unfold may
  go_enter Tryd.func76, Tryd.ntmps76
  go_wp2
  all_goals
    go_ret
    refine ⟨ret_bool ?_, rfl⟩
    simp [*]
    try omega
def StrErr (err : Int) (w : World) (e : Ending) (w' : World) : Prop := ∃ s : ByteArray, e = .returned (.tuple #[.string s, .int .i64 err]) ∧ Below w.heap.size w w'
def frErr (y : Int) : Int := if may y then 0 else 1
def toErr (fr y : Int) : Int := if may y then (if y < fr then 14 else 0) else 1
theorem FromText (y : Int) (hy : I64 y) (w : World) : Calls Tryd.prog 40 #[.int .i64 y] w (StrErr (frErr y) w) := by
  obtain ⟨y0, y1⟩ := hy
  unfold frErr
  cases hm : may y
  · have Hm := Lib.hid hm; clear hm
    rw [if_neg (by decide)]
    go_enter Tryd.func40, Tryd.ntmps40
    go_wp2_with (go_at_call 76; refine (mayC _ _).mono ?_; rw [Hm.out]; rintro e w' ⟨rfl, rfl⟩)
    go_ret2
    exact ⟨_, rfl, Below.refl _ _⟩
  · have Hm := Lib.hid hm; clear hm
    rw [if_pos rfl]
    go_enter Tryd.func40, Tryd.ntmps40
    go_wp2_with (first | (go_at_call 76; refine (mayC _ _).mono ?_; rw [Hm.out]; rintro e w' ⟨rfl, rfl⟩) | (go_at_call 77; refine (Txt.Text _ (by omega) (by omega) _).mono ?_; rintro e w2 ⟨r, rfl, hb⟩))
    · go_ret2
      exact ⟨_, rfl, Below.refl _ _⟩
    · go_ret2
      exact ⟨_, rfl, hb⟩
theorem ToText (fr y : Int) (hy : I64 y) (w : World) : Calls Tryd.prog 39 #[.int .i64 fr, .int .i64 y] w (StrErr (toErr fr y) w) := by
  obtain ⟨y0, y1⟩ := hy
  unfold toErr
  cases hm : may y
  · have Hm := Lib.hid hm; clear hm
    rw [if_neg (by decide)]
    go_enter Tryd.func39, Tryd.ntmps39
    go_wp2_with (go_at_call 76; refine (mayC _ _).mono ?_; rw [Hm.out]; rintro e w' ⟨rfl, rfl⟩)
    go_ret2
    exact ⟨_, rfl, Below.refl _ _⟩
  · have Hm := Lib.hid hm; clear hm
    rw [if_pos rfl]
    by_cases hlt : y < fr
    · rw [if_pos hlt]
      go_enter Tryd.func39, Tryd.ntmps39
      go_wp2_with (go_at_call 76; refine (mayC _ _).mono ?_; rw [Hm.out]; rintro e w' ⟨rfl, rfl⟩)
      go_ret2
      exact ⟨_, rfl, Below.refl _ _⟩
    · rw [if_neg hlt]
      go_enter Tryd.func39, Tryd.ntmps39
      go_wp2_with (first | (go_at_call 76; refine (mayC _ _).mono ?_; rw [Hm.out]; rintro e w' ⟨rfl, rfl⟩) | (go_at_call 77; refine (Txt.Text _ (by omega) (by omega) _).mono ?_; rintro e w2 ⟨r, rfl, hb⟩))
      all_goals
        go_ret2
        first
          | exact ⟨_, rfl, hb⟩
          | exact ⟨_, rfl, Below.refl _ _⟩
def clockRight (sec base : Int) : Bool := decide (0 ≤ base ∧ base ≤ 2 ∧ 0 ≤ sec ∧ sec ≤ 172800)
theorem ClockRight (sec base : Int) (w : World) : Calls Tryd.prog 44 #[.agg #[.int .i64 sec, .int .i64 base]] w fun e w' => e = .returned (.bool (clockRight sec base)) ∧ Below w.heap.size w w' := by
  go_enter Tryd.func44, Tryd.ntmps44
  go_wp2
  all_goals
    go_ret
    refine ⟨ret_bool ?_, (Below.refl _ _).alloc (Nat.le_refl _) _⟩
    unfold clockRight
    rw [Bool.eq_iff_iff]
    simp only [beq_iff_eq, beq_eq_false_iff_ne, ne_eq, decide_eq_true_eq, Bool.false_eq_true, false_iff] at *
    omega
def saves (n : Int) : Bool := decide (-10800 ≤ n) && decide (n ≤ 10800)
theorem Saves (n : Int) (w : World) : Calls Tryd.prog 45 #[.int .i64 n] w fun e w' => e = .returned (.bool (saves n)) ∧ w = w' := by
  unfold saves
  go_enter Tryd.func45, Tryd.ntmps45
  go_wp2
  all_goals
    go_ret
    refine ⟨ret_bool ?_, rfl⟩
    simp [*]
    try omega
def letErr (s : ByteArray) : Int := if Fmt.letterOK s then 0 else 4
theorem LetterText' (s : ByteArray) (hs : s.size ≤ 9223372036854775807) (w : World) : Calls Tryd.prog 41 #[.string s] w fun e w' => e = .returned (.tuple #[.string (Fmt.ltext s), .int .i64 (letErr s)]) ∧ Below w.heap.size w w' := Fmt.LetterText s hs w
/-- whether a rule may be -/
def right (r : RuleV) : Bool := ((toErr r.fr r.to == 0) && (frErr r.fr == 0) && (letErr r.letter == 0)) && (Nam.nameE r.name == 0) && Day.fits r.kind r.week r.day r.month && clockRight r.sec r.base && saves r.save

set_option maxHeartbeats 3200000 in
theorem Right (r : RuleV) (hr : r.Fit) (w : World) : Calls Tryd.prog 18 #[.agg r.cells.toArray] w fun e w' => e = .returned (.bool (right r)) ∧ Below w.heap.size w w' := by
  obtain ⟨hn, hl, hfr, hto, hsec, hsave⟩ := hr
  have Hfr := Lib.hid hfr
  have Hto := Lib.hid hto
  clear hfr hto hsec hsave
  unfold RuleV.cells
  go_enter Tryd.func18, Tryd.ntmps18
  go_wp2_with (first
    | (go_at_call 39; refine (ToText _ _ Hto.out _).mono ?_; rintro e w1 ⟨s1, rfl, hb1⟩; obtain ⟨hc1, hf1⟩ := bcell hb1; have hz1 : w.heap.size < w1.heap.size := by (have := hb1.size; simp at this; omega))
    | (go_at_call 40; refine (FromText _ Hfr.out _).mono ?_; rintro e w2 ⟨s2, rfl, hb2⟩; obtain ⟨hc2, hf2⟩ := bcell hb2; have hz2 : w.heap.size < w2.heap.size := by (have := hb2.size; omega))
    | (go_at_call 41; refine (LetterText' _ hl _).mono ?_; rintro e w3 ⟨rfl, hb3⟩; obtain ⟨hc3, hf3⟩ := bcell hb3; have hz3 : w.heap.size < w3.heap.size := by (have := hb3.size; omega))
    | (go_at_call 42; refine (Nam.Name _ hn _).mono ?_; rintro e w4 ⟨rfl, hb4⟩; obtain ⟨hc4, hf4⟩ := bcell hb4; have hz4 : w.heap.size < w4.heap.size := by (have := hb4.size; omega))
    | (go_at_call 43; refine (Day.Fits _ _ _ _ _).mono ?_; rintro e w5 ⟨rfl, hb5⟩; obtain ⟨hc5, hf5⟩ := bcell hb5; have hz5 : w.heap.size < w5.heap.size := by (have := hb5.size; omega))
    | (go_at_call 44; refine (ClockRight _ _ _).mono ?_; rintro e w6 ⟨rfl, hb6⟩; obtain ⟨hc6, hf6⟩ := bcell hb6; have hz6 : w.heap.size < w6.heap.size := by (have := hb6.size; omega))
    | (go_at_call 45; refine (Saves _ _).mono ?_; rintro e w7 ⟨rfl, rfl⟩))
  all_goals
    go_ret
    refine ⟨ret_bool ?_, ?_⟩
    · simp [right, *]
    · first
        | exact ((((((((Below.refl _ _).alloc (Nat.le_refl _) _).trans (hb1.mono (by simp))).trans (hb2.mono (by omega))).trans (hb3.mono (by omega))).trans (hb4.mono (by omega))).trans (hb5.mono (by omega))).trans (hb6.mono (by omega)))
        | exact (((((((Below.refl _ _).alloc (Nat.le_refl _) _).trans (hb1.mono (by simp))).trans (hb2.mono (by omega))).trans (hb3.mono (by omega))).trans (hb4.mono (by omega))).trans (hb5.mono (by omega)))
        | exact ((((((Below.refl _ _).alloc (Nat.le_refl _) _).trans (hb1.mono (by simp))).trans (hb2.mono (by omega))).trans (hb3.mono (by omega))).trans (hb4.mono (by omega)))
        | exact (((((Below.refl _ _).alloc (Nat.le_refl _) _).trans (hb1.mono (by simp))).trans (hb2.mono (by omega))).trans (hb3.mono (by omega)))
end Rul
end Go.Proofs.YtopdjebnfhfpcaaDoor
