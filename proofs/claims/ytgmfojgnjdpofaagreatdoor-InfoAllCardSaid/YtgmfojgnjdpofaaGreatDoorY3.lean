import Derived.Test.YtgmfojgnjdpofaaGreatDoorH44
import Derived.Test.YtgmfojgnjdpofaaGreatDoorCards
namespace Go.Proofs.YtgmfojgnjdpofaaGreatDoor.infoAll
open Go.Proofs.Tryz
open Go.ChangeShapes Go.WideShapes Go.ChangeAt Go.RowKit Card
theorem q0:(Rows.infoAllRow.inPlace==prog.inPlace 9)=true:=by kernel_rfl
theorem q1:(Rows.infoAllRow.unfollowed==prog.unfollowed 9)=true:=by kernel_rfl
theorem q2:(Rows.infoAllRow.recurses==prog.recurses 9)=true:=by kernel_rfl
theorem q3:(Rows.infoAllRow.named==prog.varsNamed 9)=true:=by kernel_rfl
end Go.Proofs.YtgmfojgnjdpofaaGreatDoor.infoAll
namespace Go.Proofs.YtgmfojgnjdpofaaGreatDoor.infoAll
open Go.Proofs.Tryz
open Go.ChangeShapes Go.WideShapes Go.ChangeAt Go.RowKit Card
theorem closed:joinedFacts prog 9 Tryz.f9 (OpenSpec.ofChange Rows.infoAllSpec).bare Rows.infoAllRow=true:=by
 unfold joinedFacts;rw [q0,q1,q2,q3]
 kernel_rfl
end Go.Proofs.YtgmfojgnjdpofaaGreatDoor.infoAll
namespace Go.Proofs.YtgmfojgnjdpofaaGreatDoor.infoAll
open Go.Proofs.Tryz
open Go.ChangeShapes Go.WideShapes Go.ChangeAt Go.RowKit Card
theorem goes:false=Rows.infoAllRow.goesBy prog:=by kernel_rfl
end Go.Proofs.YtgmfojgnjdpofaaGreatDoor.infoAll
