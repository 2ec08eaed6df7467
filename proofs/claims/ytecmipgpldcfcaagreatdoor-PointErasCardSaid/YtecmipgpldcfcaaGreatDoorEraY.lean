import Derived.Test.YtecmipgpldcfcaaGreatDoorCardB
import Derived.Test.YtecmipgpldcfcaaGreatDoorCards
namespace Go.Proofs.YtecmipgpldcfcaaGreatDoor.pointEras
open Go.ChangeShapes Go.WideShapes Go.ChangeAt Go.RowKit Card
theorem q0 : (Rows.pointErasRow.inPlace == Tryz.prog.inPlace 4) = true := by kernel_rfl
theorem q1 : (Rows.pointErasRow.unfollowed == Tryz.prog.unfollowed 4) = true := by kernel_rfl
theorem q2 : (Rows.pointErasRow.recurses == Tryz.prog.recurses 4) = true := by kernel_rfl
theorem q3 : (Rows.pointErasRow.named == Tryz.prog.varsNamed 4) = true := by kernel_rfl
end Go.Proofs.YtecmipgpldcfcaaGreatDoor.pointEras
namespace Go.Proofs.YtecmipgpldcfcaaGreatDoor.pointEras
open Go.ChangeShapes Go.WideShapes Go.ChangeAt Go.RowKit Card
theorem closed : joinedFacts Tryz.prog 4 Tryz.f4 (OpenSpec.ofChange Rows.pointErasSpec).bare Rows.pointErasRow = true := by
  unfold joinedFacts
  rw [q0, q1, q2, q3]
  kernel_rfl
end Go.Proofs.YtecmipgpldcfcaaGreatDoor.pointEras
