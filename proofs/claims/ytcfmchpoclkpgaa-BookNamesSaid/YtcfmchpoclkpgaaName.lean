/-
  rule.Name: which names may be.
-/
import Derived.Test.YtcfmchpoclkpgaaLib
import Derived.Test.YtcfmchpoclkpgaaPl
namespace Go.Proofs.Ytcfmchpoclkpgaa
open Go.RowKit NB
namespace Nam
/-- a letter, or _ -/
def okFirst (c : UInt8) : Bool := (decide (97 ≤ (c ||| 32).toNat) && decide ((c ||| 32).toNat ≤ 122)) || c == 95
/-- a digit, or one of - + / . -/
def okOther (c : UInt8) : Bool := (decide (48 ≤ c.toNat) && decide (c.toNat ≤ 57)) || decide (0 ≤ Go.Lib.indexByte [45, 43, 47, 46] c)
def okAt (l : List UInt8) (j : Nat) : Bool := match l[j]? with
  | none => true
  | some c => okFirst c || (decide (0 < j) && okOther c)
def okAll (l : List UInt8) : Bool := (List.range l.length).all (okAt l)
def nameR (s : ByteArray) : Int := if okAll s.data.toList then (if s.data.toList = [] then 10 else 0) else 10
def nameE (s : ByteArray) : Int := if 64 < s.size then 9 else nameR s
theorem or32 (c : UInt8) : bits .or .u8 (c.toNat : Int) 32 = ((c ||| 32).toNat : Int) := by
  rw [u8_or _ _ (by omega) (by have := c.toNat_lt; omega) (by omega) (by omega)]
  simp [UInt8.toNat_or]
theorem okAt_iff {l : List UInt8} {k : Nat} {c : UInt8} (h : l[k]? = some c) :
    okAt l k = true ↔ (97 ≤ ((c ||| 32).toNat : Int) ∧ ((c ||| 32).toNat : Int) ≤ 122) ∨ (c.toNat : Int) = 95 ∨ (0 < (k : Int) ∧ ((48 ≤ (c.toNat : Int) ∧ (c.toNat : Int) ≤ 57) ∨ 0 ≤ Go.Lib.indexByte [45, 43, 47, 46] c)) := by
  have e : (c == 95) = true ↔ (c.toNat : Int) = 95 := by
    rw [beq_iff_eq]
    constructor
    · rintro rfl; rfl
    · intro h; apply UInt8.toNat_inj.1; show c.toNat = 95; omega
  unfold okAt okFirst okOther
  rw [h]
  simp only [Bool.or_eq_true, Bool.and_eq_true, decide_eq_true_eq, e]
  omega
theorem all_succ {l : List UInt8} {k : Nat} (h : (List.range k).all (okAt l) = true) (h2 : okAt l k = true) : (List.range (k + 1)).all (okAt l) = true := by
  rw [List.range_succ, List.all_append, h]; simp [h2]
theorem not_all {l : List UInt8} {k : Nat} (hk : k < l.length) (h2 : ¬ okAt l k = true) : okAll l = false := by
  unfold okAll
  rw [Bool.eq_false_iff]
  intro h
  exact h2 (List.all_eq_true.1 h k (List.mem_range.2 hk))

end Nam
end Go.Proofs.Ytcfmchpoclkpgaa
