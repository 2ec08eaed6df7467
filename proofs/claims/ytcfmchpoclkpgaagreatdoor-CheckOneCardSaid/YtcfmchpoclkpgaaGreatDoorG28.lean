import Derived.Test.YtcfmchpoclkpgaaGreatDoorCardB
import Derived.Test.YtcfmchpoclkpgaaGreatDoorCards
namespace Go.Proofs.YtcfmchpoclkpgaaGreatDoor.checkOne
open Go.ChangeShapes Go.WideShapes Go.ChangeAt Go.RowKit Card
theorem q0 : (Rows.checkOneRow.inPlace == Tryz.prog.inPlace 4) = true := by kernel_rfl
theorem q1 : (Rows.checkOneRow.unfollowed == Tryz.prog.unfollowed 4) = true := by kernel_rfl
theorem q2 : (Rows.checkOneRow.recurses == Tryz.prog.recurses 4) = true := by kernel_rfl
theorem q3 : (Rows.checkOneRow.named == Tryz.prog.varsNamed 4) = true := by kernel_rfl
end Go.Proofs.YtcfmchpoclkpgaaGreatDoor.checkOne
namespace Go.Proofs.YtcfmchpoclkpgaaGreatDoor.checkOne
open Go.ChangeShapes Go.WideShapes Go.ChangeAt Go.RowKit Card
theorem closed : joinedFacts Tryz.prog 4 Tryz.f4 (OpenSpec.ofChange Rows.checkOneSpec).bare Rows.checkOneRow = true := by
  unfold joinedFacts
  rw [q0, q1, q2, q3]
  kernel_rfl
end Go.Proofs.YtcfmchpoclkpgaaGreatDoor.checkOne
