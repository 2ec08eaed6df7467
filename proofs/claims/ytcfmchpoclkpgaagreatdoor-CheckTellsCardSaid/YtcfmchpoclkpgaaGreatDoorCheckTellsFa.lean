import Derived.Test.YtcfmchpoclkpgaaGreatDoorCardB
import Derived.Test.YtcfmchpoclkpgaaGreatDoorCards
namespace Go.Proofs.YtcfmchpoclkpgaaGreatDoor.checkTells
open Go.ChangeShapes Go.WideShapes Go.ChangeAt Go.RowKit Card
theorem q0 : (Rows.checkTellsRow.inPlace == Tryz.prog.inPlace 3) = true := by kernel_rfl
theorem q1 : (Rows.checkTellsRow.unfollowed == Tryz.prog.unfollowed 3) = true := by kernel_rfl
theorem q2 : (Rows.checkTellsRow.recurses == Tryz.prog.recurses 3) = true := by kernel_rfl
theorem q3 : (Rows.checkTellsRow.named == Tryz.prog.varsNamed 3) = true := by kernel_rfl
end Go.Proofs.YtcfmchpoclkpgaaGreatDoor.checkTells
