/-
  num.Text: a number's text (here: that there is one), as the program runs it.
-/
import Derived.Test.YtcfmchpoclkpgaaLib
import Derived.Test.YtcfmchpoclkpgaaPl
namespace Go.Proofs.Ytcfmchpoclkpgaa
open Go.RowKit NB
namespace Txt
theorem info_u8 : (Try.prog.info? 5).map (fun i => (i.zero, i.size, i.bytes)) = some (some (.int .u8 0), 1, 1) := by kernel_rfl
def farI (n : Int) : Int := if n < 0 then -n else n
def SomeStr (w : World) (e : Ending) (w' : World) : Prop := ∃ r : ByteArray, e = .returned (.string r) ∧ Below w.heap.size w w'
def Fitp (p n : Nat) : Prop := p * 10 ^ n ≤ 10 ^ 22
theorem Fitp.start {p m : Nat} (h : p ≤ 9223372036854775808) (hm : m ≤ 1) : Fitp p m := by
  unfold Fitp
  have h1 : 10 ^ m ≤ 10 ^ 1 := Nat.pow_le_pow_right (by omega) hm
  exact Nat.le_trans (Nat.mul_le_mul h h1) (by decide)
theorem Fitp.len {p n : Nat} (h : Fitp p n) (hp : 1 ≤ p) : n ≤ 22 := by
  unfold Fitp at h
  have h2 : 10 ^ n ≤ 10 ^ 22 := Nat.le_trans (Nat.le_mul_of_pos_left _ hp) h
  exact (Nat.pow_le_pow_iff_right (by omega)).1 h2
theorem Fitp.next {p n : Nat} (h : Fitp p n) : Fitp (p / 10) (n + 1) := by
  unfold Fitp at *
  rw [Nat.pow_succ]
  have h1 : p / 10 * 10 ≤ p := Nat.div_mul_le_self p 10
  calc p / 10 * (10 ^ n * 10) = (p / 10 * 10) * 10 ^ n := by rw [Nat.mul_comm (10 ^ n) 10, Nat.mul_assoc]
    _ ≤ p * 10 ^ n := Nat.mul_le_mul_right _ h1
    _ ≤ 10 ^ 22 := h
def Bytes (xs : List Value) : Prop := ∀ x ∈ xs, ∃ c : UInt8, x = .int .u8 (c.toNat : Int)
theorem Bytes.list : ∀ {xs : List Value}, Bytes xs → ∃ l : List UInt8, xs = l.map fun c => Value.int .u8 (c.toNat : Int)
  | [], _ => ⟨[], rfl⟩
  | x :: xs, h => by
    obtain ⟨c, rfl⟩ := h x (by simp)
    obtain ⟨l, rfl⟩ := Bytes.list (xs := xs) (fun y hy => h y (by simp [hy]))
    exact ⟨c :: l, rfl⟩
theorem Bytes.snoc {xs : List Value} (h : Bytes xs) (d : Int) (h0 : 0 ≤ d) (h1 : d ≤ 255) : Bytes (xs ++ [.int .u8 d]) := by
  intro x hx
  rcases List.mem_append.1 hx with hx | hx
  · exact h x hx
  · simp only [List.mem_singleton] at hx
    subst hx
    refine ⟨UInt8.ofNat d.toNat, ?_⟩
    rw [UInt8.toNat_ofNat_of_lt' (by show d.toNat < 256; omega)]
    congr 1; omega
end Txt
end Go.Proofs.Ytcfmchpoclkpgaa
