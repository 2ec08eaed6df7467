import Derived.Test.YtcfmchpoclkpgaaGreatDoorCardB
import Derived.Test.YtcfmchpoclkpgaaGreatDoorCards
import Derived.Test.YtcfmchpoclkpgaaGreatDoorCheckTellsFa
namespace Go.Proofs.YtcfmchpoclkpgaaGreatDoor.checkTells
open Go.ChangeShapes Go.WideShapes Go.ChangeAt Go.RowKit Card
theorem closed : joinedFacts Tryz.prog 3 Tryz.f3 (OpenSpec.ofChange Rows.checkTellsSpec).bare Rows.checkTellsRow = true := by
  unfold joinedFacts
  rw [q0, q1, q2, q3]
  kernel_rfl
end Go.Proofs.YtcfmchpoclkpgaaGreatDoor.checkTells
