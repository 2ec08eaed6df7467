/-
  format: words and letters, as the program runs them.
-/
import Derived.Test.YtcfmchpoclkpgaaLib
import Derived.Test.YtcfmchpoclkpgaaPl
namespace Go.Proofs.Ytcfmchpoclkpgaa
open Go.RowKit NB
namespace Fmt
/-- the bytes that may stand in a name -/
def wset : List UInt8 := [65, 66, 67, 68, 69, 70, 71, 72, 73, 74, 75, 76, 77, 78, 79, 80, 81, 82, 83, 84, 85, 86, 87, 88, 89, 90, 97, 98, 99, 100, 101, 102, 103, 104, 105, 106, 107, 108, 109, 110, 111, 112, 113, 114, 115, 116, 117, 118, 119, 120, 121, 122, 48, 49, 50, 51, 52, 53, 54, 55, 56, 57, 43, 45]
def wordB (s : ByteArray) : Bool := s.data.toList.all (wset.contains ·)
theorem dropWhile_nil {l : List UInt8} {p : UInt8 → Bool} : l.dropWhile p = [] ↔ l.all p = true := by
  induction l with
  | nil => simp
  | cons a l ih =>
    by_cases h : p a = true
    · simp [List.dropWhile_cons, h, ih]
    · simp [List.dropWhile_cons, h]
theorem trim_nil (l cs : List UInt8) : Go.Lib.trimS l cs = [] ↔ l.all (cs.contains ·) = true := by
  unfold Go.Lib.trimS Go.Lib.trimLeftS Go.Lib.trimRightS
  rw [dropWhile_nil]
  constructor
  · intro h
    have h2 : (l.reverse.dropWhile (cs.contains ·)).all (cs.contains ·) = true := by
      rw [← List.all_reverse]; exact h
    rcases hd : l.reverse.dropWhile (cs.contains ·) with _ | ⟨a, t⟩
    · rw [dropWhile_nil, List.all_reverse] at hd; exact hd
    · have := List.head_dropWhile_not (l := l.reverse) (cs.contains ·) (by rw [hd]; simp)
      simp only [hd, List.head_cons] at this
      rw [hd] at h2
      simp only [List.all_cons, Bool.and_eq_true] at h2
      rw [this] at h2
      exact absurd h2.1 (by simp)
  · intro h
    have : l.reverse.dropWhile (cs.contains ·) = [] := by rw [dropWhile_nil, List.all_reverse]; exact h
    rw [this]; rfl
theorem emp (l : List UInt8) : (⟨l.toArray⟩ : ByteArray).toList.isEmpty = l.isEmpty := by rw [ByteArray.toList_eq]

def letS (s : ByteArray) : ByteArray := if s.toList = [45] ∨ 6 < s.size ∨ s.toList = [] ∨ wordB s = false then ⟨#[]⟩ else s
def letE (s : ByteArray) : Int := if s.toList = [45] then 0 else if 6 < s.size then 9 else if s.toList = [] ∨ wordB s = false then 4 else 0
/-- whether letters may be written -/
def letterOK (s : ByteArray) : Bool := decide (s.toList = []) || (!decide (s.toList = [45]) && decide (s.size ≤ 6) && wordB s)
theorem letter_ok {s : ByteArray} (h : s.toList ≠ []) : letterOK s = true ↔ letE s = 0 ∧ s.toList ≠ [45] := by
  unfold letterOK letE
  by_cases h1 : s.toList = [45]
  · simp [h1]
  · by_cases h2 : 6 < s.size
    · simp [h1, h2, h]; omega
    · cases h4 : wordB s <;> simp [h1, h2, h] <;> omega
def ltext (s : ByteArray) : ByteArray := if s.toList = [] then ⟨#[45]⟩ else if letterOK s then s else ⟨#[]⟩
end Fmt
end Go.Proofs.Ytcfmchpoclkpgaa
