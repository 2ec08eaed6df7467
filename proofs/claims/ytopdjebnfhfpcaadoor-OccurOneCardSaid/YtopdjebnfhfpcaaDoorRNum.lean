/-
  noontideref01: Div, Floor, Rest and Clamp, as the program runs them.
-/
import Derived.Test.YtopdjebnfhfpcaaDoorNC
import Derived.Test.YtopdjebnfhfpcaaDoorPl
import Derived.Test.YtopdjebnfhfpcaaDoorProg
namespace Go.Proofs.YtopdjebnfhfpcaaDoor
open Go.RowKit NB
namespace RNum
end RNum
end Go.Proofs.YtopdjebnfhfpcaaDoor
