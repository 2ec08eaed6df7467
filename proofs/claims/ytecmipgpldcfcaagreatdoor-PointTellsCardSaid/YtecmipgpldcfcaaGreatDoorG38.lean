import Derived.Test.YtecmipgpldcfcaaGreatDoorCardB
import Derived.Test.YtecmipgpldcfcaaGreatDoorCards
namespace Go.Proofs.YtecmipgpldcfcaaGreatDoor.pointTells
open Go.ChangeShapes Go.WideShapes Go.ChangeAt Go.RowKit Card
theorem q0 : (Rows.pointTellsRow.inPlace == Tryz.prog.inPlace 3) = true := by kernel_rfl
theorem q1 : (Rows.pointTellsRow.unfollowed == Tryz.prog.unfollowed 3) = true := by kernel_rfl
theorem q2 : (Rows.pointTellsRow.recurses == Tryz.prog.recurses 3) = true := by kernel_rfl
theorem q3 : (Rows.pointTellsRow.named == Tryz.prog.varsNamed 3) = true := by kernel_rfl
end Go.Proofs.YtecmipgpldcfcaaGreatDoor.pointTells
namespace Go.Proofs.YtecmipgpldcfcaaGreatDoor.pointTells
open Go.ChangeShapes Go.WideShapes Go.ChangeAt Go.RowKit Card
theorem closed : joinedFacts Tryz.prog 3 Tryz.f3 (OpenSpec.ofChange Rows.pointTellsSpec).bare Rows.pointTellsRow = true := by
  unfold joinedFacts
  rw [q0, q1, q2, q3]
  kernel_rfl
end Go.Proofs.YtecmipgpldcfcaaGreatDoor.pointTells
