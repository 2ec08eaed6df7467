import Derived.Test.YtkpjhgkmjcdobaaGreatDoorG1
import Derived.Test.YtkpjhgkmjcdobaaGreatDoorG3
import Derived.Test.YtkpjhgkmjcdobaaGreatDoorG6
/-
  rule.Name: which names may be.
-/
namespace Go.Proofs.YtkpjhgkmjcdobaaGreatDoor
open Go.RowKit NB
namespace Nam
/-- a letter, or _ -/
def okFirst (c : UInt8) : Bool := (decide (97 ≤ (c ||| 32).toNat) && decide ((c ||| 32).toNat ≤ 122)) || c == 95
/-- a digit, or one of - + / . -/
def okOther (c : UInt8) : Bool := (decide (48 ≤ c.toNat) && decide (c.toNat ≤ 57)) || decide (0 ≤ Go.Lib.indexByte [45, 43, 47, 46] c)
def okAt (l : List UInt8) (j : Nat) : Bool := match l[j]? with
  | none => true
  | some c => okFirst c || (decide (0 < j) && okOther c)
def okAll (l : List UInt8) : Bool := (List.range l.length).all (okAt l)
def nameR (s : ByteArray) : Int := if okAll s.data.toList then (if s.data.toList = [] then 10 else 0) else 10
def nameE (s : ByteArray) : Int := if 64 < s.size then 9 else nameR s
theorem or32 (c : UInt8) : bits .or .u8 (c.toNat : Int) 32 = ((c ||| 32).toNat : Int) := by
  rw [u8_or _ _ (by omega) (by have := c.toNat_lt; omega) (by omega) (by omega)]
  simp [UInt8.toNat_or]
theorem okAt_iff {l : List UInt8} {k : Nat} {c : UInt8} (h : l[k]? = some c) :
    okAt l k = true ↔ (97 ≤ ((c ||| 32).toNat : Int) ∧ ((c ||| 32).toNat : Int) ≤ 122) ∨ (c.toNat : Int) = 95 ∨ (0 < (k : Int) ∧ ((48 ≤ (c.toNat : Int) ∧ (c.toNat : Int) ≤ 57) ∨ 0 ≤ Go.Lib.indexByte [45, 43, 47, 46] c)) := by
  have e : (c == 95) = true ↔ (c.toNat : Int) = 95 := by
    rw [beq_iff_eq]
    constructor
    · rintro rfl; rfl
    · intro h; apply UInt8.toNat_inj.1; show c.toNat = 95; omega
  unfold okAt okFirst okOther
  rw [h]
  simp only [Bool.or_eq_true, Bool.and_eq_true, decide_eq_true_eq, e]
  omega
theorem all_succ {l : List UInt8} {k : Nat} (h : (List.range k).all (okAt l) = true) (h2 : okAt l k = true) : (List.range (k + 1)).all (okAt l) = true := by
  rw [List.range_succ, List.all_append, h]; simp [h2]
theorem not_all {l : List UInt8} {k : Nat} (hk : k < l.length) (h2 : ¬ okAt l k = true) : okAll l = false := by
  unfold okAll
  rw [Bool.eq_false_iff]
  intro h
  exact h2 (List.all_eq_true.1 h k (List.mem_range.2 hk))

set_option maxRecDepth 100000 in
set_option maxHeartbeats 1600000 in
theorem Name_le (s : ByteArray) (hs : s.size ≤ 64) (w : World) : Calls Tryz.prog 76 #[.string s] w fun e w' => e = .returned (.int .i64 (nameR s)) ∧ Below w.heap.size w w' := by
  obtain ⟨cap, o, hrun, hcell⟩ := Lb.bytes_of w s
  have Hcell := Lib.hid hcell; clear hcell
  have hlen : s.data.toList.length = s.size := by simp
  have Hlen := Lib.hid hlen; clear hlen
  have hB : Below w.heap.size w (w.alloc o).drew := ((Below.refl _ _).alloc (Nat.le_refl _) _).drew
  have HB := Lib.hid hB; clear hB
  go_enter Tryz.func76, Tryz.ntmps76
  go_wp2
  go_loop [11] (fun i => ∃ k : Nat, k ≤ s.size ∧ i = .int .i64 k ∧ (List.range k).all (okAt s.data.toList) = true) (fun i => s.size - (intOf i).toNat)
  case atStart => exact ⟨0, Nat.zero_le _, rfl, rfl⟩
  case round =>
    obtain ⟨k, hk, rfl, hall⟩ := hrel
    have Hall := Lib.hid hall; clear hall
    by_cases hlt : k < s.size
    · obtain ⟨c, hc⟩ : ∃ c, s.data.toList[k]? = some c := ⟨s.data.toList[k]'(by rw [Hlen.out]; exact hlt), by simp⟩
      have c1 := Hcell.out k c hc
      have hiff := Lib.hid (okAt_iff hc)
      have Hc := Lib.hid hc; clear hc
      have hor := or32 c
      have hcb : (c.toNat : Int) < 256 := by have := c.toNat_lt; omega
      generalize (c ||| 32).toNat = t at hor hiff
      generalize hix : Go.Lib.indexByte [45, 43, 47, 46] c = ix at hiff
      have hcu : (c.toNat : Int).toNat.toUInt8 = c := by simp
      rw [← hcu] at hix
      have Hix := Lib.hid hix; clear hix hcu
      go_wp2_with (go_at_call 122; refine (Lb.IndexByte _ _ _).mono ?_; rw [Hix.out]; rintro e w' ⟨rfl, rfl⟩)
      all_goals
        first
          | (go_round
             case rel =>
               refine ⟨k + 1, by omega, by go_num, all_succ Hall.out (hiff.out.2 ?_)⟩
               simp only [beq_iff_eq, beq_eq_false_iff_ne, ne_eq] at *
               omega
             case measure => simp [intOf]; omega)
          | (go_ret
             refine ⟨ret_int ?_, HB.out⟩
             unfold nameR
             rw [not_all (k := k) (by rw [Hlen.out]; exact hlt) (by
               rw [hiff.out]
               simp only [beq_eq_false_iff_ne, ne_eq] at *
               omega)]
             rfl)
    · have hks : k = s.size := by omega
      have hfin : okAll s.data.toList = true := by
        unfold okAll; rw [Hlen.out, ← hks]; exact Hall.out
      have Hfin := Lib.hid hfin; clear hfin hks
      by_cases he : s.toList = []
      · have e1 : s.toList.isEmpty = true := by simp [he]
        have e2 : s.data.toList = [] := by rw [← ByteArray.toList_eq]; exact he
        have E2 := Lib.hid e2; clear e2 he
        go_wp2
        go_ret
        refine ⟨ret_int ?_, HB.out⟩
        unfold nameR
        rw [if_pos Hfin.out, if_pos E2.out]
      · have e1 : s.toList.isEmpty = false := by simp [he]
        have e2 : ¬ s.data.toList = [] := by rw [← ByteArray.toList_eq]; exact he
        have E2 := Lib.hid e2; clear e2 he
        go_wp2
        go_ret
        refine ⟨ret_int ?_, HB.out⟩
        unfold nameR
        rw [if_pos Hfin.out, if_neg E2.out]

theorem Name (s : ByteArray) (hm : s.size ≤ 9223372036854775807) (w : World) : Calls Tryz.prog 76 #[.string s] w fun e w' => e = .returned (.int .i64 (nameE s)) ∧ Below w.heap.size w w' := by
  unfold nameE
  by_cases h : 64 < s.size
  · rw [if_pos h]
    go_enter Tryz.func76, Tryz.ntmps76
    go_wp2
    go_ret
    exact ⟨rfl, Below.refl _ _⟩
  · rw [if_neg h]
    exact Name_le s (by omega) w
end Nam
end Go.Proofs.YtkpjhgkmjcdobaaGreatDoor
/-
  year, clock and rule: which rules may be, as the program runs them.
-/
namespace Go.Proofs.YtkpjhgkmjcdobaaGreatDoor
open Go.RowKit NB
/-- A rule, as plain data. -/
structure RuleV where
  name : ByteArray
  fr : Int
  «to» : Int
  month : Int
  kind : Int
  week : Int
  day : Int
  sec : Int
  base : Int
  save : Int
  letter : ByteArray
def RuleV.cells (r : RuleV) : List Value := [.string r.name, .int .i64 r.fr, .int .i64 r.to, .int .i64 r.month, .int .i64 r.kind, .int .i64 r.week, .int .i64 r.day, .int .i64 r.sec, .int .i64 r.base, .int .i64 r.save, .string r.letter]
def I64 (n : Int) : Prop := -9223372036854775808 ≤ n ∧ n ≤ 9223372036854775807
/-- what a rule's parts may hold, whatever it is -/
structure RuleV.Fit (r : RuleV) : Prop where
  n : r.name.size ≤ 9223372036854775807
  l : r.letter.size ≤ 9223372036854775807
  fr : I64 r.fr
  «to» : I64 r.to
  sec : I64 r.sec
  save : I64 r.save
namespace Rul
def may (y : Int) : Bool := decide (-32767 ≤ y) && decide (y ≤ 32767)
theorem mayC (y : Int) (w : World) : Calls Tryz.prog 175 #[.int .i64 y] w fun e w' => e = .returned (.bool (may y)) ∧ w = w' := by
  unfold may
  go_enter Tryz.func175, Tryz.ntmps175
  go_wp2
  all_goals
    go_ret
    refine ⟨ret_bool ?_, rfl⟩
    simp [*]
    try omega
def StrErr (err : Int) (w : World) (e : Ending) (w' : World) : Prop := ∃ s : ByteArray, e = .returned (.tuple #[.string s, .int .i64 err]) ∧ Below w.heap.size w w'
def frErr (y : Int) : Int := if may y then 0 else 1
def toErr (fr y : Int) : Int := if may y then (if y < fr then 14 else 0) else 1
theorem FromText (y : Int) (hy : I64 y) (w : World) : Calls Tryz.prog 145 #[.int .i64 y] w (StrErr (frErr y) w) := by
  obtain ⟨y0, y1⟩ := hy
  unfold frErr
  cases hm : may y
  · have Hm := Lib.hid hm; clear hm
    rw [if_neg (by decide)]
    go_enter Tryz.func145, Tryz.ntmps145
    go_wp2_with (go_at_call 175; refine (mayC _ _).mono ?_; rw [Hm.out]; rintro e w' ⟨rfl, rfl⟩)
    go_ret2
    exact ⟨_, rfl, Below.refl _ _⟩
  · have Hm := Lib.hid hm; clear hm
    rw [if_pos rfl]
    go_enter Tryz.func145, Tryz.ntmps145
    go_wp2_with (first | (go_at_call 175; refine (mayC _ _).mono ?_; rw [Hm.out]; rintro e w' ⟨rfl, rfl⟩) | (go_at_call 176; refine (Txt.Text _ (by omega) (by omega) _).mono ?_; rintro e w2 ⟨r, rfl, hb⟩))
    · go_ret2
      exact ⟨_, rfl, Below.refl _ _⟩
    · go_ret2
      exact ⟨_, rfl, hb⟩
theorem ToText (fr y : Int) (hy : I64 y) (w : World) : Calls Tryz.prog 144 #[.int .i64 fr, .int .i64 y] w (StrErr (toErr fr y) w) := by
  obtain ⟨y0, y1⟩ := hy
  unfold toErr
  cases hm : may y
  · have Hm := Lib.hid hm; clear hm
    rw [if_neg (by decide)]
    go_enter Tryz.func144, Tryz.ntmps144
    go_wp2_with (go_at_call 175; refine (mayC _ _).mono ?_; rw [Hm.out]; rintro e w' ⟨rfl, rfl⟩)
    go_ret2
    exact ⟨_, rfl, Below.refl _ _⟩
  · have Hm := Lib.hid hm; clear hm
    rw [if_pos rfl]
    by_cases hlt : y < fr
    · rw [if_pos hlt]
      go_enter Tryz.func144, Tryz.ntmps144
      go_wp2_with (go_at_call 175; refine (mayC _ _).mono ?_; rw [Hm.out]; rintro e w' ⟨rfl, rfl⟩)
      go_ret2
      exact ⟨_, rfl, Below.refl _ _⟩
    · rw [if_neg hlt]
      go_enter Tryz.func144, Tryz.ntmps144
      go_wp2_with (first | (go_at_call 175; refine (mayC _ _).mono ?_; rw [Hm.out]; rintro e w' ⟨rfl, rfl⟩) | (go_at_call 176; refine (Txt.Text _ (by omega) (by omega) _).mono ?_; rintro e w2 ⟨r, rfl, hb⟩))
      all_goals
        go_ret2
        first
          | exact ⟨_, rfl, hb⟩
          | exact ⟨_, rfl, Below.refl _ _⟩
def clockRight (sec base : Int) : Bool := decide (0 ≤ base ∧ base ≤ 2 ∧ 0 ≤ sec ∧ sec ≤ 172800)
theorem ClockRight (sec base : Int) (w : World) : Calls Tryz.prog 121 #[.agg #[.int .i64 sec, .int .i64 base]] w fun e w' => e = .returned (.bool (clockRight sec base)) ∧ Below w.heap.size w w' := by
  go_enter Tryz.func121, Tryz.ntmps121
  go_wp2
  all_goals
    go_ret
    refine ⟨ret_bool ?_, (Below.refl _ _).alloc (Nat.le_refl _) _⟩
    unfold clockRight
    rw [Bool.eq_iff_iff]
    simp only [beq_iff_eq, beq_eq_false_iff_ne, ne_eq, decide_eq_true_eq, Bool.false_eq_true, false_iff] at *
    omega
def saves (n : Int) : Bool := decide (-10800 ≤ n) && decide (n ≤ 10800)
theorem Saves (n : Int) (w : World) : Calls Tryz.prog 147 #[.int .i64 n] w fun e w' => e = .returned (.bool (saves n)) ∧ w = w' := by
  unfold saves
  go_enter Tryz.func147, Tryz.ntmps147
  go_wp2
  all_goals
    go_ret
    refine ⟨ret_bool ?_, rfl⟩
    simp [*]
    try omega
def letErr (s : ByteArray) : Int := if Fmt.letterOK s then 0 else 4
theorem LetterText' (s : ByteArray) (hs : s.size ≤ 9223372036854775807) (w : World) : Calls Tryz.prog 146 #[.string s] w fun e w' => e = .returned (.tuple #[.string (Fmt.ltext s), .int .i64 (letErr s)]) ∧ Below w.heap.size w w' := Fmt.LetterText s hs w
/-- whether a rule may be -/
def right (r : RuleV) : Bool := ((toErr r.fr r.to == 0) && (frErr r.fr == 0) && (letErr r.letter == 0)) && (Nam.nameE r.name == 0) && Day.fits r.kind r.week r.day r.month && clockRight r.sec r.base && saves r.save

set_option maxHeartbeats 3200000 in
theorem Right (r : RuleV) (hr : r.Fit) (w : World) : Calls Tryz.prog 105 #[.agg r.cells.toArray] w fun e w' => e = .returned (.bool (right r)) ∧ Below w.heap.size w w' := by
  obtain ⟨hn, hl, hfr, hto, hsec, hsave⟩ := hr
  have Hfr := Lib.hid hfr
  have Hto := Lib.hid hto
  clear hfr hto hsec hsave
  unfold RuleV.cells
  go_enter Tryz.func105, Tryz.ntmps105
  go_wp2_with (first
    | (go_at_call 144; refine (ToText _ _ Hto.out _).mono ?_; rintro e w1 ⟨s1, rfl, hb1⟩; obtain ⟨hc1, hf1⟩ := bcell hb1; have hz1 : w.heap.size < w1.heap.size := by (have := hb1.size; simp at this; omega))
    | (go_at_call 145; refine (FromText _ Hfr.out _).mono ?_; rintro e w2 ⟨s2, rfl, hb2⟩; obtain ⟨hc2, hf2⟩ := bcell hb2; have hz2 : w.heap.size < w2.heap.size := by (have := hb2.size; omega))
    | (go_at_call 146; refine (LetterText' _ hl _).mono ?_; rintro e w3 ⟨rfl, hb3⟩; obtain ⟨hc3, hf3⟩ := bcell hb3; have hz3 : w.heap.size < w3.heap.size := by (have := hb3.size; omega))
    | (go_at_call 76; refine (Nam.Name _ hn _).mono ?_; rintro e w4 ⟨rfl, hb4⟩; obtain ⟨hc4, hf4⟩ := bcell hb4; have hz4 : w.heap.size < w4.heap.size := by (have := hb4.size; omega))
    | (go_at_call 77; refine (Day.Fits _ _ _ _ _).mono ?_; rintro e w5 ⟨rfl, hb5⟩; obtain ⟨hc5, hf5⟩ := bcell hb5; have hz5 : w.heap.size < w5.heap.size := by (have := hb5.size; omega))
    | (go_at_call 121; refine (ClockRight _ _ _).mono ?_; rintro e w6 ⟨rfl, hb6⟩; obtain ⟨hc6, hf6⟩ := bcell hb6; have hz6 : w.heap.size < w6.heap.size := by (have := hb6.size; omega))
    | (go_at_call 147; refine (Saves _ _).mono ?_; rintro e w7 ⟨rfl, rfl⟩))
  all_goals
    go_ret
    refine ⟨ret_bool ?_, ?_⟩
    · simp [right, *]
    · first
        | exact ((((((((Below.refl _ _).alloc (Nat.le_refl _) _).trans (hb1.mono (by simp))).trans (hb2.mono (by omega))).trans (hb3.mono (by omega))).trans (hb4.mono (by omega))).trans (hb5.mono (by omega))).trans (hb6.mono (by omega)))
        | exact (((((((Below.refl _ _).alloc (Nat.le_refl _) _).trans (hb1.mono (by simp))).trans (hb2.mono (by omega))).trans (hb3.mono (by omega))).trans (hb4.mono (by omega))).trans (hb5.mono (by omega)))
        | exact ((((((Below.refl _ _).alloc (Nat.le_refl _) _).trans (hb1.mono (by simp))).trans (hb2.mono (by omega))).trans (hb3.mono (by omega))).trans (hb4.mono (by omega)))
        | exact (((((Below.refl _ _).alloc (Nat.le_refl _) _).trans (hb1.mono (by simp))).trans (hb2.mono (by omega))).trans (hb3.mono (by omega)))
end Rul
end Go.Proofs.YtkpjhgkmjcdobaaGreatDoor
/-
  Rules that may be: what that says of their parts.
-/
namespace Go.Proofs.YtkpjhgkmjcdobaaGreatDoor
open Go.RowKit NB
namespace Rul
theorem right_spec {r : RuleV} (h : right r = true) : (-32767 ≤ r.fr ∧ r.fr ≤ r.to ∧ r.to ≤ 32767) ∧ Day.fits r.kind r.week r.day r.month = true ∧ (0 ≤ r.base ∧ r.base ≤ 2 ∧ 0 ≤ r.sec ∧ r.sec ≤ 172800) ∧ (-10800 ≤ r.save ∧ r.save ≤ 10800) := by
  unfold right at h
  simp only [Bool.and_eq_true, beq_iff_eq] at h
  obtain ⟨⟨⟨⟨⟨⟨h1, h2⟩, _⟩, _⟩, h5⟩, h6⟩, h7⟩ := h
  have hc := of_decide_eq_true h6
  unfold saves at h7
  simp only [Bool.and_eq_true, decide_eq_true_eq] at h7
  unfold toErr may at h1
  unfold frErr may at h2
  refine ⟨?_, h5, hc, h7⟩
  by_cases a : (decide (-32767 ≤ r.to) && decide (r.to ≤ 32767)) = true
  · rw [if_pos a] at h1
    by_cases b : (decide (-32767 ≤ r.fr) && decide (r.fr ≤ 32767)) = true
    · simp only [Bool.and_eq_true, decide_eq_true_eq] at a b
      by_cases c : r.to < r.fr
      · rw [if_pos c] at h1; cases h1
      · omega
    · rw [if_neg b] at h2; cases h2
  · rw [if_neg a] at h1; cases h1
end Rul
end Go.Proofs.YtkpjhgkmjcdobaaGreatDoor
