/-
  civil: what its functions give, as the program runs them.
-/
import Derived.Test.YtcfmchpoclkpgaaNum
import Derived.Test.YtcfmchpoclkpgaaCal
namespace Go.Proofs.Ytcfmchpoclkpgaa
open Go.RowKit NB
namespace Civ

/-- whether a date may be -/
def right (y m d : Int) : Bool := decide (-40000 ≤ y) && decide (y ≤ 40000) && decide (1 ≤ d) && decide (d ≤ Cal.len y m)

end Civ
end Go.Proofs.Ytcfmchpoclkpgaa
