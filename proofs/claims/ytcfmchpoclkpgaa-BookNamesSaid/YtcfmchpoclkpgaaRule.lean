/-
  year, clock and rule: which rules may be, as the program runs them.
-/
import Derived.Test.YtcfmchpoclkpgaaText
import Derived.Test.YtcfmchpoclkpgaaName
import Derived.Test.YtcfmchpoclkpgaaFmt
import Derived.Test.YtcfmchpoclkpgaaDayB
namespace Go.Proofs.Ytcfmchpoclkpgaa
open Go.RowKit NB
/-- A rule, as plain data. -/
structure RuleV where
  name : ByteArray
  fr : Int
  «to» : Int
  month : Int
  kind : Int
  week : Int
  day : Int
  sec : Int
  base : Int
  save : Int
  letter : ByteArray
deriving DecidableEq
def RuleV.cells (r : RuleV) : List Value := [.string r.name, .int .i64 r.fr, .int .i64 r.to, .int .i64 r.month, .int .i64 r.kind, .int .i64 r.week, .int .i64 r.day, .int .i64 r.sec, .int .i64 r.base, .int .i64 r.save, .string r.letter]
def I64 (n : Int) : Prop := -9223372036854775808 ≤ n ∧ n ≤ 9223372036854775807
/-- what a rule's parts may hold, whatever it is -/
structure RuleV.Fit (r : RuleV) : Prop where
  n : r.name.size ≤ 9223372036854775807
  l : r.letter.size ≤ 9223372036854775807
  fr : I64 r.fr
  «to» : I64 r.to
  sec : I64 r.sec
  save : I64 r.save
namespace Rul
def may (y : Int) : Bool := decide (-32767 ≤ y) && decide (y ≤ 32767)
def StrErr (err : Int) (w : World) (e : Ending) (w' : World) : Prop := ∃ s : ByteArray, e = .returned (.tuple #[.string s, .int .i64 err]) ∧ Below w.heap.size w w'
def frErr (y : Int) : Int := if may y then 0 else 1
def toErr (fr y : Int) : Int := if may y then (if y < fr then 14 else 0) else 1
def clockRight (sec base : Int) : Bool := decide (0 ≤ base ∧ base ≤ 2 ∧ 0 ≤ sec ∧ sec ≤ 172800)
def saves (n : Int) : Bool := decide (-10800 ≤ n) && decide (n ≤ 10800)
def letErr (s : ByteArray) : Int := if Fmt.letterOK s then 0 else 4
/-- whether a rule may be -/
def right (r : RuleV) : Bool := ((toErr r.fr r.to == 0) && (frErr r.fr == 0) && (letErr r.letter == 0)) && (Nam.nameE r.name == 0) && Day.fits r.kind r.week r.day r.month && clockRight r.sec r.base && saves r.save

end Rul
end Go.Proofs.Ytcfmchpoclkpgaa
