import Derived.Test.YtcfmchpoclkpgaaGreatDoorCardB
import Derived.Test.YtcfmchpoclkpgaaGreatDoorCards
namespace Go.Proofs.YtcfmchpoclkpgaaGreatDoor.checkFits
open Go.ChangeShapes Go.WideShapes Go.ChangeAt Go.RowKit Card
theorem q0 : (Rows.checkFitsRow.inPlace == Tryz.prog.inPlace 5) = true := by kernel_rfl
theorem q1 : (Rows.checkFitsRow.unfollowed == Tryz.prog.unfollowed 5) = true := by kernel_rfl
theorem q2 : (Rows.checkFitsRow.recurses == Tryz.prog.recurses 5) = true := by kernel_rfl
theorem q3 : (Rows.checkFitsRow.named == Tryz.prog.varsNamed 5) = true := by kernel_rfl
end Go.Proofs.YtcfmchpoclkpgaaGreatDoor.checkFits
namespace Go.Proofs.YtcfmchpoclkpgaaGreatDoor.checkFits
open Go.ChangeShapes Go.WideShapes Go.ChangeAt Go.RowKit Card
theorem closed : joinedFacts Tryz.prog 5 Tryz.f5 (OpenSpec.ofChange Rows.checkFitsSpec).bare Rows.checkFitsRow = true := by
  unfold joinedFacts
  rw [q0, q1, q2, q3]
  kernel_rfl
end Go.Proofs.YtcfmchpoclkpgaaGreatDoor.checkFits
