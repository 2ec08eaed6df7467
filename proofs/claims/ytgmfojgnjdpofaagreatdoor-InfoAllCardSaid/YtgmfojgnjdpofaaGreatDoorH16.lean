import Derived.Test.YtgmfojgnjdpofaaGreatDoorH3
import Derived.Test.YtgmfojgnjdpofaaGreatDoorH4
namespace Go.Proofs.YtgmfojgnjdpofaaGreatDoor
open Go.RowKit Go.ChangeShapes Go.WideShapes
structure OccV.Fit (o:OccV):Prop where
 r:I64 o.rule
 y:I64 o.year
 n:I64 o.nom
structure SpanV where
 fr:Int
 «to» :Int
def SpanV.cells (s:SpanV):List Value:=[.int .i64 s.fr,.int .i64 s.to]
structure SpanV.Fit (s:SpanV):Prop where
 f:I64 s.fr
 t:I64 s.to
section
variable {H:Type} {enc:TypeId×Value→H} {w:World} {base:Nat} {spare:Nat→Bool} {held:Bool}
theorem lit_i64 {n:Int} (hn:(Lit.int .i64 n).wf=true):I64 n:=by
 have h1:(decide (IntKind.i64.min≤n)&&decide (n≤IntKind.i64.max))=true:=hn;rw [show IntKind.i64.min= -9223372036854775808 from rfl,show IntKind.i64.max=9223372036854775807 from rfl] at h1;simp only [Bool.and_eq_true,decide_eq_true_eq] at h1;exact h1
end
end Go.Proofs.YtgmfojgnjdpofaaGreatDoor
