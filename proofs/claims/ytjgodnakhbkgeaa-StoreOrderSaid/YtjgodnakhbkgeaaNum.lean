/-
  num: what its functions give, as the program runs them.
-/
import Derived.Test.YtjgodnakhbkgeaaNB
import Derived.Test.YtjgodnakhbkgeaaPl
import Derived.Test.YtjgodnakhbkgeaaProg
namespace Go.Proofs.Ytjgodnakhbkgeaa
open Go.RowKit NB
namespace Num

theorem div_tail (w : World) (n : Nat) : Below w.heap.size w (w.drewN n) := ⟨rfl, rfl, rfl, Nat.le_refl _, fun _ _ => rfl⟩

end Num
end Go.Proofs.Ytjgodnakhbkgeaa
