/-
  Plain lemmas on integers: bits of a 64-bit number, quotients, and the calendar. No program stands in this text.
-/
import Derived.WalkKit
import Derived.Lib.Hide
namespace Go.Proofs.Ytcfmchpoclkpgaa
open Go.RowKit
namespace Pl

theorem toInt_ofInt64 (a : Int) (h0 : -9223372036854775808 ≤ a) (h1 : a ≤ 9223372036854775807) : (BitVec.ofInt 64 a).toInt = a := by
  rw [BitVec.toInt_ofInt, Int.bmod_def]; omega
theorem wrap_toNat (x : BitVec 64) : IntKind.i64.wrap (x.toNat : Int) = x.toInt := by
  rw [IntKind.wrap_i64, BitVec.toInt_eq_toNat_cond]
  have := x.isLt
  split <;> omega
theorem bits_xor_eq (a b : Int) : bits .xor .i64 a b = (BitVec.ofInt 64 a ^^^ BitVec.ofInt 64 b).toInt := by
  rw [← wrap_toNat]; rfl
theorem bits_and_eq (a b : Int) : bits .and .i64 a b = (BitVec.ofInt 64 a &&& BitVec.ofInt 64 b).toInt := by
  rw [← wrap_toNat]; rfl
theorem xor_neg (a b : Int) (h0 : -9223372036854775808 ≤ a) (h1 : a ≤ 9223372036854775807) (h2 : -9223372036854775808 ≤ b) (h3 : b ≤ 9223372036854775807) :
    (bits .xor .i64 a b < 0) ↔ ((a < 0 ∧ 0 ≤ b) ∨ (0 ≤ a ∧ b < 0)) := by
  have e := bits_xor_eq a b
  have m := BitVec.msb_eq_toInt (x := BitVec.ofInt 64 a ^^^ BitVec.ofInt 64 b)
  have ma := BitVec.msb_eq_toInt (x := BitVec.ofInt 64 a)
  have mb := BitVec.msb_eq_toInt (x := BitVec.ofInt 64 b)
  rw [BitVec.msb_xor, ma, mb, toInt_ofInt64 a h0 h1, toInt_ofInt64 b h2 h3] at m
  rw [e]
  generalize (BitVec.ofInt 64 a ^^^ BitVec.ofInt 64 b).toInt = x at m
  by_cases ha : a < 0 <;> by_cases hb : b < 0 <;> simp only [ha, hb, decide_true, decide_false, bne_self_eq_false, Bool.bne_true, Bool.bne_false, Bool.not_false, Bool.not_true] at m
  · have : ¬ x < 0 := of_decide_eq_false m.symm
    omega
  · have : x < 0 := of_decide_eq_true (by simpa using m.symm)
    omega
  · have : x < 0 := of_decide_eq_true (by simpa using m.symm)
    omega
  · have : ¬ x < 0 := of_decide_eq_false m.symm
    omega
theorem and_mask (k : Nat) (a : Int) (hk : k < 63) :
    bits .and .i64 a ((2 ^ k - 1 : Nat) : Int) = a % ((2 ^ k : Nat) : Int) := by
  have hp : 2 ^ k < 2 ^ 63 := Nat.pow_lt_pow_right (by omega) hk
  have hp1 : 0 < 2 ^ k := Nat.two_pow_pos k
  show IntKind.i64.wrap ((BitVec.ofInt 64 a &&& BitVec.ofInt 64 ((2 ^ k - 1 : Nat) : Int)).toNat : Int) = _
  rw [BitVec.toNat_and, BitVec.ofInt_natCast, BitVec.toNat_ofNat]
  have e1 : (2 ^ k - 1) % 2 ^ 64 = 2 ^ k - 1 := Nat.mod_eq_of_lt (by omega)
  rw [e1, Nat.and_two_pow_sub_one_eq_mod]
  have e2 : ((BitVec.ofInt 64 a).toNat : Int) = a % 18446744073709551616 := by
    rw [BitVec.toNat_ofInt]
    have : (0 : Int) ≤ a % ((2 ^ 64 : Nat) : Int) := Int.emod_nonneg _ (by decide)
    omega
  have hdvd : ((2 ^ k : Nat) : Int) ∣ 18446744073709551616 := by
    refine ⟨((2 ^ (64 - k) : Nat) : Int), ?_⟩
    rw [← Int.natCast_mul, ← Nat.pow_add, show k + (64 - k) = 64 by omega]; rfl
  have e3 : (((BitVec.ofInt 64 a).toNat % 2 ^ k : Nat) : Int) = a % ((2 ^ k : Nat) : Int) := by
    rw [Int.natCast_emod, e2, Int.emod_emod_of_dvd _ hdvd]
  rw [e3, IntKind.wrap_i64]
  have h4 := Int.emod_nonneg a (show ((2 ^ k : Nat) : Int) ≠ 0 by omega)
  have h5 := Int.emod_lt_of_pos a (show (0 : Int) < ((2 ^ k : Nat) : Int) by omega)
  omega
theorem and3 (a : Int) : bits .and .i64 a 3 = a % 4 := and_mask 2 a (by omega)
theorem and15 (a : Int) : bits .and .i64 a 15 = a % 16 := and_mask 4 a (by omega)
theorem tdiv_neg' (a b : Int) (h : a < 0) (hb : 0 < b) (hr : a % b ≠ 0) : a.tdiv b = a / b + 1 := by
  rw [Int.tdiv_eq_ediv, if_neg, Int.sign_eq_one_of_pos hb]
  rintro (h' | h')
  · omega
  · exact hr (Int.emod_eq_zero_of_dvd h')
theorem tmod_neg' (a b : Int) (h : a < 0) (hb : 0 < b) (hr : a % b ≠ 0) : a.tmod b = a % b - b := by
  rw [Int.tmod_eq_emod, if_neg]
  · omega
  rintro (h' | h')
  · omega
  · exact hr (Int.emod_eq_zero_of_dvd h')
theorem tdiv_ex (a b : Int) (hr : a % b = 0) : a.tdiv b = a / b := by
  rw [Int.tdiv_eq_ediv, if_pos (Or.inr (Int.dvd_of_emod_eq_zero hr))]; omega
theorem tmod_ex (a b : Int) (hr : a % b = 0) : a.tmod b = 0 := by
  rw [Int.tmod_eq_emod, if_pos (Or.inr (Int.dvd_of_emod_eq_zero hr))]; omega

end Pl
end Go.Proofs.Ytcfmchpoclkpgaa
