import Derived.Maps.AppendAt
import Derived.RangeFuncBox
import Derived.Shelf.Abstract
import Derived.Shelf.RegionOpen
import Derived.WalkKit
import Derived.OwnWalkIn
import Derived.TacticsInMore
import Derived.LoopNIn
import Derived.LoopIn
import Derived.Test.YtgmfojgnjdpofaaGreatDoorH1
import Derived.Test.YtgmfojgnjdpofaaGreatDoorH35
import Derived.Test.YtgmfojgnjdpofaaGreatDoorH37
import Derived.Test.YtgmfojgnjdpofaaGreatDoorH43
namespace Go.Proofs.YtgmfojgnjdpofaaGreatDoor
open Go.Proofs.Tryz
section
open Go.RowKit
namespace L35
open Pt Chg L34
theorem chk:(Chk.check [Us.us0,Us.us1]).2=0:=by decide +kernel
section
variable (rv zv va ve:Value)
theorem zone0:zoneAt (two rv zv va ve) 0=some (zA va):=rfl
theorem zone1:zoneAt (two rv zv va ve) 1=some (zE ve):=rfl
theorem stepE {s c:Int} (h0:lo≤s) (h1:s≤hi) (hc:c≤hi) (h:Frc.nextV [Us.us0,Us.us1] L33.eE s=(c,true)):NextT (two rv zv va ve) 1 s (c,true):=by
 have hR:Er.rightB L33.eE=true:=by decide +kernel
 have hB:=L33.nextB chk hR (t:=s) (by unfold lo at h0;omega) (by unfold hi at h1;omega) h;have hi0:∀ u,idx (Zn.endsL [Us.us0,Us.us1] [L33.eE]) u=0:=fun u=>by rw [endsE];rfl
 have hV:∀ u,VV [Us.us0,Us.us1] [L33.eE] u=L33.AV [Us.us0,Us.us1] L33.eE u:=fun u=>by unfold VV;rw [hi0];rfl
 refine .inr ⟨zE ve,rfl,⟨h0,h1⟩,?_⟩;show NextR [Us.us0,Us.us1] [L33.eE] (VV [Us.us0,Us.us1] [L33.eE] s) s (c,true);refine .hit ?_ ?_
 ·have hcd:candN [Us.us0,Us.us1] [L33.eE] s=(c,true):=by
   rw [cand_none (e:=L33.eE) (by rw [hi0];rfl) (by rw [endsE];rfl),h]
  unfold stepN;rw [hcd];exact if_neg (by rintro (h|h|h);cases h;exact absurd hc (Int.not_le.2 h);exact absurd hB.2.1 (Int.not_lt.2 h))
 ·rw [hV,hV];exact hB.2.2.1
theorem nE:NextT (two rv zv va ve) 1 1719792000 (1730613600,true):=stepE rv zv va ve (by decide) (by decide) (by decide) L33.n1
end
end L35
end
section
open Go.RowKit NB
namespace Chg
open Pt
def PrevT (t:TabV) (zone s:Int) (r:Int×Bool):Prop:=((valV t zone s).2≠0∧r=(0,false))∨∃ z,zoneAt t zone=some z∧(lo≤s∧s≤hi)∧PrevR t.rs z.es (VV t.rs z.es s) s r
end Chg
namespace L35
open Pt Chg L34
theorem idx1 (a u:Int):idx [a] u=if u<a then 0 else 1:=by
 rw [idx_cons];rfl
theorem no_next {l:List RuleV} {e:EraV} (h:¬e.kind=2) (s:Int):Frc.nextV l e s=(0,false)∧Frc.prevV l e s=(0,false):=by
 unfold Frc.nextV Frc.prevV;rw [if_neg (fun x=>h x.2),if_neg (fun x=>h x.2)];exact ⟨rfl,rfl⟩
structure Duo (l:List RuleV) (a b:EraV) (x y:ValV) (d:Int):Prop where
 ends:Zn.endsL l [a,b]=[d]
 ka:¬a.kind=2
 kb:¬b.kind=2
 va:∀ s,L33.AV l a s=x
 vb:∀ s,L33.AV l b s=y
 d0:lo<d∧d≤hi
section
variable {l:List RuleV} {a b:EraV} {x y:ValV} {d:Int} (h:Duo l a b x y d)
include h
theorem duo_v (s:Int):VV l [a,b] s=if s<d then x else y:=by
 unfold VV;rw [h.ends,idx1]
 by_cases hs:s<d
 ·rw [if_pos hs,if_pos hs];exact h.va s
 ·rw [if_neg hs,if_neg hs];exact h.vb s
theorem duo_step {s:Int} (hs:s<d):stepN l [a,b] s=some d:=by
 have hi0:idx (Zn.endsL l [a,b]) s=0:=by rw [h.ends,idx1,if_pos hs]
 have hcd:candN l [a,b] s=(d,true):=cand_end (e:=a) (by rw [hi0];rfl) (by rw [hi0,h.ends];rfl) (.inl (by rw [(no_next h.ka s).1]));unfold stepN;rw [hcd];exact if_neg (by rintro (h'|h'|h');cases h';exact absurd h.d0.2 (Int.not_le.2 h');exact absurd hs (Int.not_lt.2 h'))
theorem duo_stop {s:Int} (hs:d≤s):stepN l [a,b] s=none:=by
 have hi0:idx (Zn.endsL l [a,b]) s=1:=by rw [h.ends,idx1,if_neg (by omega)]
 have hcd:candN l [a,b] s=(0,false):=by rw [cand_none (e:=b) (by rw [hi0];rfl) (by rw [hi0,h.ends];rfl),(no_next h.kb s).1]
 unfold stepN;rw [hcd];exact if_pos (.inl rfl)
theorem duo_next (hxy:y≠x) {s:Int} (hs:s<d):NextR l [a,b] (VV l [a,b] s) s (d,true):=by
 refine .hit (duo_step h hs) ?_;rw [duo_v h,duo_v h,if_neg (by omega),if_pos hs];exact hxy
theorem duo_none {v:ValV} {s:Int} (hs:d≤s):NextR l [a,b] v s (0,false):=.stop (duo_stop h hs)
theorem duo_prev (hxy:x≠y):PrevR l [a,b] (VV l [a,b] d) d (d,true):=by
 have hi0:idx (Zn.endsL l [a,b]) d=1:=by rw [h.ends,idx1,if_neg (by omega)]
 have hh:here l [a,b] d=(0,false):=by unfold here;rw [hi0];exact (no_next h.kb d).2
 have hst:startP l [a,b] d=d:=by unfold startP;rw [hi0,h.ends];rfl
 have:=PrevR.hit (l:=l) (es:=[a,b]) (v:=VV l [a,b] d) (s:=d) (by rw [hh];intro h;cases h) (by rw [hi0];decide) (by
  rw [hst,duo_v h,duo_v h,if_pos (by omega),if_neg (by omega)];exact hxy)
 rw [hst] at this;exact this
end
theorem duoA:Duo [Us.us0,Us.us1] eA eB ⟨3600,0,⟨#[88]⟩⟩ ⟨7200,0,⟨#[89]⟩⟩ (-631155600) where
 ends:=endsA
 ka:=by decide
 kb:=by decide
 va s:=by
  unfold L33.AV Frc.atV;rw [if_pos (by decide +kernel),if_neg (by decide +kernel)];decide +kernel
 vb s:=by
  unfold L33.AV Frc.atV;rw [if_pos (by decide +kernel),if_neg (by decide +kernel)];decide +kernel
 d0:=by decide
def uA:EraV:=⟨3600,0,0,⟨#[]⟩,⟨#[37,122]⟩,⟨true,1950,1,0,0,1,0,0⟩⟩
def uB:EraV:=⟨3600,0,0,⟨#[]⟩,⟨#[37,122]⟩,⟨false,0,0,0,0,0,0,0⟩⟩
def zU (v:Value):ZoneV:=⟨⟨#[65]⟩,v,[uA,uB]⟩
def one (rv zv va:Value):TabV:=⟨rv,zv,.slice none 0 0,[Us.us0,Us.us1],[zU va],[]⟩
section
variable (rv zv va ve:Value)
theorem n1:NextT (two rv zv va ve) 0 (-631155601) (-631155600,true):=.inr ⟨zA va,rfl,by decide,duo_next duoA (by decide) (by decide)⟩
theorem p2:PrevT (two rv zv va ve) 0 (-631155600) (-631155600,true):=.inr ⟨zA va,rfl,by decide,duo_prev duoA (by decide)⟩
theorem n4:NextT (two rv zv va ve) 0 (-631155600) (0,false):=.inr ⟨zA va,rfl,by decide,duo_none duoA (by decide)⟩
theorem p6:PrevT (two rv zv va ve) 1 1719792000 (1710054000,true):=by
 have hi0:∀ u,idx (Zn.endsL [Us.us0,Us.us1] [L33.eE]) u=0:=fun u=>by rw [endsE];rfl
 have hh:here [Us.us0,Us.us1] [L33.eE] 1719792000=(1710054000,true):=by unfold here;rw [hi0];exact L33.p1
 have:=PrevR.here (l:=[Us.us0,Us.us1]) (es:=[L33.eE]) (v:=VV [Us.us0,Us.us1] [L33.eE] 1719792000) (s:=1719792000) (by rw [hh]) (by rw [hh];unfold startP;rw [hi0];decide);rw [hh] at this;exact .inr ⟨zE ve,rfl,by decide,this⟩
end
end L35
end
section
open Go.RowKit NB
namespace L35
open Pt Chg L34
abbrev tw (a b c d:Nat):TabV:=two (.slice (some ⟨a,0,none⟩) 2 2) (.slice (some ⟨b,0,none⟩) 2 2) (.slice (some ⟨c,0,none⟩) 2 2) (.slice (some ⟨d,0,none⟩) 1 1)
abbrev twA (a b:Nat):Value:=.agg #[.slice (some ⟨a,0,none⟩) 2 2,.slice (some ⟨b,0,none⟩) 2 2,.slice none 0 0]
end L35
end
section
open Go.RowKit NB
namespace L35
open Pt Chg L34
def Apart (x y:ValV):Prop:=(x.off==y.off)=false∨(x.off=y.off∧(x.save==y.save)=false)∨(x.off=y.off∧x.save=y.save∧(x.abbr.toList==y.abbr.toList)=false)
theorem apart_of {x y:ValV} (h:x≠y):Apart x y:=by
 obtain ⟨a,b,c⟩:=x;obtain ⟨a',b',c'⟩:=y;unfold Apart;dsimp only
 by_cases h1:a=a'
 ·by_cases h2:b=b'
  ·exact .inr (.inr ⟨h1,h2,str_ne fun h3=>h (by rw [h1,h2,h3])⟩)
  ·exact .inr (.inl ⟨h1,by simpa using h2⟩)
 ·exact .inl (by simpa using h1)
theorem val_c' {w:World} {t:TabV} (ht:HoldsT w t) (ok:Ok t) (tb:Tab w) {k:Nat} {z:ZoneV} (hz:zoneAt t (k:Int)=some z) {c:Int} (h0:lo≤c) (h1:c≤hi) {v:ValV} (hv:VV t.rs z.es c=v):
 Calls prog 16 #[.agg #[t.rv,t.zv,t.lv],.int .i64 (k:Int),.int .i64 c] w fun e w'=>e=.returned (.tuple #[.agg #[.int .i64 v.off,.int .i64 v.save,.string v.abbr],.int .i64 0])∧Below w.heap.size w w':=by
 have:=ValueC ht ok tb (k:Int) c (by unfold I64;unfold lo at h0;unfold hi at h1;omega);rw [val_VV ok hz h0 h1,hv] at this;exact this
end L35
end
end Go.Proofs.YtgmfojgnjdpofaaGreatDoor
