/-
  Go's library as this program has it: the shelf's contracts at this program's numbers.
-/
import Derived.Shelf.Strings.SlTrimAscii
import Derived.Shelf.Small.Strs
import Derived.Test.YtcfmchpoclkpgaaNB
import Derived.Test.YtcfmchpoclkpgaaProg
namespace Go.Proofs.Ytcfmchpoclkpgaa
open Go.Shelf

open Go.RowKit
namespace Lb
end Lb
end Go.Proofs.Ytcfmchpoclkpgaa
