/-
  noontideref03: Right, YearDay, Days, Date and Weekday, as the program runs them.
-/
import Derived.Test.YtopdjebnfhfpcaaDoorRCiv
import Derived.Test.YtopdjebnfhfpcaaDoorCivB
namespace Go.Proofs.YtopdjebnfhfpcaaDoor
open Go.RowKit NB
namespace RCiv
theorem cum_one (y : Int) : Cal.cum y 1 = 0 := by unfold Cal.cum; simp
def okN (n : Int) : Bool := decide (Cal.ahead (-40000) ≤ n) && decide (n < Cal.ahead 40001)
theorem ahead_lo : Cal.ahead (-40000) = -15329228 := by decide +kernel
theorem ahead_hi : Cal.ahead 40001 = 13890538 := by decide +kernel
theorem start_le (n : Int) (h0 : -15329228 ≤ n) (h1 : n < 13890538) : -42000 ≤ 1970 + n / 366 ∧ 1970 + n / 366 ≤ 40000 := by omega
theorem dY_bd (n : Int) (h0 : -15329228 ≤ n) (h1 : n < 13890538) : -40000 ≤ Yr.dY n ∧ Yr.dY n ≤ 40000 := by
  have hy := Yr.year_of n
  have e1 := ahead_lo
  have e2 := ahead_hi
  constructor
  · rcases (by omega : -40000 ≤ Yr.dY n ∨ Yr.dY n + 1 ≤ -40000) with h | h
    · exact h
    · have := Cal.ahead_mono h; omega
  · rcases (by omega : Yr.dY n ≤ 40000 ∨ 40001 ≤ Yr.dY n) with h | h
    · exact h
    · have := Cal.ahead_mono h; omega
theorem ahead_lt_iff (n y : Int) : Cal.ahead y ≤ n ↔ y ≤ Yr.dY n := by
  have hy := Yr.year_of n
  constructor
  · intro h
    rcases (by omega : y ≤ Yr.dY n ∨ Yr.dY n + 1 ≤ y) with h' | h'
    · exact h'
    · have := Cal.ahead_mono h'; omega
  · intro h
    have := Cal.ahead_mono h; omega
end RCiv
end Go.Proofs.YtopdjebnfhfpcaaDoor
