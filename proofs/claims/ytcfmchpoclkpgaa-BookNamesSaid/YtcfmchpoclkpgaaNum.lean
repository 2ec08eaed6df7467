/-
  num: what its functions give, as the program runs them.
-/
import Derived.Test.YtcfmchpoclkpgaaNB
import Derived.Test.YtcfmchpoclkpgaaPl
import Derived.Test.YtcfmchpoclkpgaaProg
namespace Go.Proofs.Ytcfmchpoclkpgaa
open Go.RowKit NB
namespace Num

theorem div_tail (w : World) (n : Nat) : Below w.heap.size w (w.drewN n) := ⟨rfl, rfl, rfl, Nat.le_refl _, fun _ _ => rfl⟩

end Num
end Go.Proofs.Ytcfmchpoclkpgaa
