/-
  format: words and letters, as the program runs them.
-/
import Derived.Test.YtopdjebnfhfpcaaGreatDoorLib
import Derived.Test.YtopdjebnfhfpcaaGreatDoorPl
namespace Go.Proofs.YtopdjebnfhfpcaaGreatDoor
open Go.RowKit NB
namespace Fmt
/-- the bytes that may stand in a name -/
def wset : List UInt8 := [65, 66, 67, 68, 69, 70, 71, 72, 73, 74, 75, 76, 77, 78, 79, 80, 81, 82, 83, 84, 85, 86, 87, 88, 89, 90, 97, 98, 99, 100, 101, 102, 103, 104, 105, 106, 107, 108, 109, 110, 111, 112, 113, 114, 115, 116, 117, 118, 119, 120, 121, 122, 48, 49, 50, 51, 52, 53, 54, 55, 56, 57, 43, 45]
def wordB (s : ByteArray) : Bool := s.data.toList.all (wset.contains ·)
theorem dropWhile_nil {l : List UInt8} {p : UInt8 → Bool} : l.dropWhile p = [] ↔ l.all p = true := by
  induction l with
  | nil => simp
  | cons a l ih =>
    by_cases h : p a = true
    · simp [List.dropWhile_cons, h, ih]
    · simp [List.dropWhile_cons, h]
theorem trim_nil (l cs : List UInt8) : Go.Lib.trimS l cs = [] ↔ l.all (cs.contains ·) = true := by
  unfold Go.Lib.trimS Go.Lib.trimLeftS Go.Lib.trimRightS
  rw [dropWhile_nil]
  constructor
  · intro h
    have h2 : (l.reverse.dropWhile (cs.contains ·)).all (cs.contains ·) = true := by
      rw [← List.all_reverse]; exact h
    rcases hd : l.reverse.dropWhile (cs.contains ·) with _ | ⟨a, t⟩
    · rw [dropWhile_nil, List.all_reverse] at hd; exact hd
    · have := List.head_dropWhile_not (l := l.reverse) (cs.contains ·) (by rw [hd]; simp)
      simp only [hd, List.head_cons] at this
      rw [hd] at h2
      simp only [List.all_cons, Bool.and_eq_true] at h2
      rw [this] at h2
      exact absurd h2.1 (by simp)
  · intro h
    have : l.reverse.dropWhile (cs.contains ·) = [] := by rw [dropWhile_nil, List.all_reverse]; exact h
    rw [this]; rfl
theorem emp (l : List UInt8) : (⟨l.toArray⟩ : ByteArray).toList.isEmpty = l.isEmpty := by rw [ByteArray.toList_eq]

theorem word (s : ByteArray) (hs : s.size ≤ 9223372036854775807) (w : World) : Calls Tryz.prog 99 #[.string s] w fun e w' => e = .returned (.bool (wordB s)) ∧ Below w.heap.size w w' := by
  have hcon := Lb.Trim s ⟨#[65, 66, 67, 68, 69, 70, 71, 72, 73, 74, 75, 76, 77, 78, 79, 80, 81, 82, 83, 84, 85, 86, 87, 88, 89, 90, 97, 98, 99, 100, 101, 102, 103, 104, 105, 106, 107, 108, 109, 110, 111, 112, 113, 114, 115, 116, 117, 118, 119, 120, 121, 122, 48, 49, 50, 51, 52, 53, 54, 55, 56, 57, 43, 45]⟩ w hs (by decide) (ascii_of_all (by decide))
  have hf : (⟨(Go.Lib.trimS s.data.toList wset).toArray⟩ : ByteArray).toList.isEmpty = wordB s := by
    rw [emp, Bool.eq_iff_iff, List.isEmpty_iff, trim_nil]; rfl
  change Calls Tryz.prog 111 _ _ (fun e w' => e = .returned (.string ⟨(Go.Lib.trimS s.data.toList wset).toArray⟩) ∧ Below w.heap.size w w') at hcon
  rw [← hf]
  generalize (⟨(Go.Lib.trimS s.data.toList wset).toArray⟩ : ByteArray) = r at hcon ⊢
  clear hf
  have Hcon := Lib.hid hcon; clear hcon
  go_enter Tryz.func99, Tryz.ntmps99
  go_wp2_with (go_at_call 111; refine Hcon.out.mono ?_; rintro e w' ⟨rfl, hB⟩)
  go_ret
  exact ⟨rfl, hB⟩

def letS (s : ByteArray) : ByteArray := if s.toList = [45] ∨ 6 < s.size ∨ s.toList = [] ∨ wordB s = false then ⟨#[]⟩ else s
def letE (s : ByteArray) : Int := if s.toList = [45] then 0 else if 6 < s.size then 9 else if s.toList = [] ∨ wordB s = false then 4 else 0
set_option maxHeartbeats 800000 in
theorem Letter (s : ByteArray) (hs : s.size ≤ 9223372036854775807) (w : World) : Calls Tryz.prog 81 #[.string s] w fun e w' => e = .returned (.tuple #[.string (letS s), .int .i64 (letE s)]) ∧ Below w.heap.size w w' := by
  unfold letS letE
  by_cases h1 : s.toList = [45]
  · have e1 : (s.toList == [45]) = true := by simp [h1]
    rw [if_pos (.inl h1), if_pos h1]
    clear h1
    go_enter Tryz.func81, Tryz.ntmps81
    go_wp2
    go_ret2
    exact ⟨rfl, Below.refl _ _⟩
  · have e1 : (s.toList == [45]) = false := by simp [h1]
    rw [if_neg h1]
    by_cases h2 : 6 < s.size
    · rw [if_pos (.inr (.inl h2)), if_pos h2]
      clear h1
      go_enter Tryz.func81, Tryz.ntmps81
      go_wp2
      go_ret2
      exact ⟨rfl, Below.refl _ _⟩
    · rw [if_neg h2]
      by_cases h3 : s.toList = []
      · have e3 : s.toList.isEmpty = true := by simp [h3]
        rw [if_pos (.inr (.inr (.inl h3))), if_pos (.inl h3)]
        clear h1
        have H3 := Lib.hid h3; clear h3
        go_enter Tryz.func81, Tryz.ntmps81
        go_wp2
        go_ret2
        exact ⟨rfl, Below.refl _ _⟩
      · have e3 : s.toList.isEmpty = false := by simp [h3]
        cases h4 : wordB s
        · rw [if_pos (.inr (.inr (.inr rfl))), if_pos (.inr rfl)]
          clear h1 h3
          have H4 := Lib.hid h4; clear h4
          go_enter Tryz.func81, Tryz.ntmps81
          go_wp2_with (go_at_call 99; refine (word _ (by omega) _).mono ?_; rw [H4.out]; rintro e w' ⟨rfl, hB⟩)
          go_ret2
          exact ⟨rfl, hB⟩
        · rw [if_neg (by simp [h1, h2, h3]), if_neg (by simp [h3])]
          clear h1 h3
          have H4 := Lib.hid h4; clear h4
          go_enter Tryz.func81, Tryz.ntmps81
          go_wp2_with (go_at_call 99; refine (word _ (by omega) _).mono ?_; rw [H4.out]; rintro e w' ⟨rfl, hB⟩)
          go_ret2
          exact ⟨rfl, hB⟩

/-- whether letters may be written -/
def letterOK (s : ByteArray) : Bool := decide (s.toList = []) || (!decide (s.toList = [45]) && decide (s.size ≤ 6) && wordB s)
theorem letter_ok {s : ByteArray} (h : s.toList ≠ []) : letterOK s = true ↔ letE s = 0 ∧ s.toList ≠ [45] := by
  unfold letterOK letE
  by_cases h1 : s.toList = [45]
  · simp [h1]
  · by_cases h2 : 6 < s.size
    · simp [h1, h2, h]; omega
    · cases h4 : wordB s <;> simp [h1, h2, h] <;> omega
def ltext (s : ByteArray) : ByteArray := if s.toList = [] then ⟨#[45]⟩ else if letterOK s then s else ⟨#[]⟩
set_option maxHeartbeats 800000 in
theorem LetterText (s : ByteArray) (hs : s.size ≤ 9223372036854775807) (w : World) : Calls Tryz.prog 60 #[.string s] w fun e w' => e = .returned (.tuple #[.string (ltext s), .int .i64 (if letterOK s then 0 else 4)]) ∧ Below w.heap.size w w' := by
  unfold ltext
  by_cases h1 : s.toList = []
  · have e1 : s.toList.isEmpty = true := by simp [h1]
    have e2 : letterOK s = true := by unfold letterOK; simp [h1]
    rw [if_pos h1, e2]
    clear h1 e2
    go_enter Tryz.func60, Tryz.ntmps60
    go_wp2
    go_ret2
    exact ⟨rfl, Below.refl _ _⟩
  · have e1 : s.toList.isEmpty = false := by simp [h1]
    rw [if_neg h1]
    have hk := letter_ok h1
    cases h4 : letterOK s
    · by_cases h5 : letE s = 0
      · have h6 : s.toList = [45] := by
          by_cases h6 : s.toList = [45]
          · exact h6
          · exact absurd (hk.2 ⟨h5, h6⟩) (by rw [h4]; simp)
        have h7 : letS s = ⟨#[]⟩ := by unfold letS; rw [if_pos (.inl h6)]
        have h8 : (([] : List UInt8) == s.toList) = false := by simp [h6]
        have H5 := Lib.hid h5; have H7 := Lib.hid h7
        clear hk h4 h5 h6 h7 h1
        go_enter Tryz.func60, Tryz.ntmps60
        go_wp2_with (go_at_call 81; refine (Letter _ (by omega) _).mono ?_; rw [H5.out, H7.out]; rintro e w' ⟨rfl, hB⟩)
        go_ret2
        exact ⟨rfl, hB⟩
      · have h6 : (letE s != 0) = true := by simp [h5]
        have h6' : (letE s == 0) = false := by simp [h5]
        clear hk h4 h5 h1
        go_enter Tryz.func60, Tryz.ntmps60
        go_wp2_with (go_at_call 81; refine (Letter _ (by omega) _).mono ?_; rintro e w' ⟨rfl, hB⟩)
        go_ret2
        exact ⟨rfl, hB⟩
    · obtain ⟨h5, h6⟩ := hk.1 h4
      have h7 : letS s = s := by
        unfold letS
        unfold letE at h5
        rw [if_neg h6] at h5
        rw [if_neg]
        rintro (h | h | h | h)
        · exact h6 h
        · rw [if_pos h] at h5; cases h5
        · exact h1 h
        · by_cases h2 : 6 < s.size
          · rw [if_pos h2] at h5; cases h5
          · rw [if_neg h2, if_pos (.inr h)] at h5; cases h5
      have H5 := Lib.hid h5; have H7 := Lib.hid h7
      clear hk h4 h5 h6 h7 h1
      go_enter Tryz.func60, Tryz.ntmps60
      go_wp2_with (go_at_call 81; refine (Letter _ (by omega) _).mono ?_; rw [H5.out, H7.out]; rintro e w' ⟨rfl, hB⟩)
      go_ret2
      exact ⟨rfl, hB⟩
end Fmt
end Go.Proofs.YtopdjebnfhfpcaaGreatDoor
