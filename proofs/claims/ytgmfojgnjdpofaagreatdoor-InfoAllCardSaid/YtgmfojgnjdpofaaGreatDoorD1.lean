import Derived.Test.YtgmfojgnjdpofaaGreatDoorH31
namespace Go.Proofs.YtgmfojgnjdpofaaGreatDoor
open Go.RowKit NB
namespace Chg
open Pt Frc L33
structure NearE (l:List RuleV) (es:List EraV):Prop where
 good:GoodE l es
 bad:∀ i,i<(Zn.endsL l es).length→Unt.badAt l es (Zn.endsL l es) i=0
section
variable {l:List RuleV} {es:List EraV} (h:NearE l es)
include h
end
structure RuleM (l:List RuleV) (es:List EraV) (u:Int) (i:Nat) (e:EraV) (o:OccV):Prop where
 at':idx (Zn.endsL l es) u=i
 no:∀ j:Nat,(Zn.endsL l es)[j]? ≠some u
 era:es[i]? =some e
 kind:e.kind=2
 may:Chn.may e.off=true
 occ:Occ.All l e.rules l.length o
 inst:Chn.inst l e.rules e.off o=u
def gap (x y:ValV):Int:=max (x.off-y.off) (y.off-x.off)
section
variable {l:List RuleV} {es:List EraV} (hg:GoodE l es) (hc:(Chk.check l).2=0)
include hg
theorem vv_bd {s:Int} (h0:lo≤s) (h1:s≤hi): -64800≤(VV l es s).off∧(VV l es s).off≤64800:=by
 obtain ⟨e,_,hR,hv⟩:=era_at hg s;rw [hv];exact off_bd hR h0 h1
end
section
variable {l:List RuleV} {es:List EraV} (h:NearE l es) {u v:Int} {i j:Nat} {e f:EraV} {o p:OccV}
include h
end
end Chg
end Go.Proofs.YtgmfojgnjdpofaaGreatDoor
