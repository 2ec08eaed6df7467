import Derived.Test.YtgmfojgnjdpofaaGreatDoorH35
import Derived.Test.YtgmfojgnjdpofaaGreatDoorH3
import Derived.Test.YtgmfojgnjdpofaaGreatDoorRows
import Derived.MakeChecks
import Derived.Test.YtgmfojgnjdpofaaGreatDoorH44
import Derived.Test.YtgmfojgnjdpofaaGreatDoorH2
import Derived.Test.YtgmfojgnjdpofaaGreatDoorH17
import Derived.Shelf.Vars
namespace Go.Proofs.YtgmfojgnjdpofaaGreatDoor
open Go.Proofs.Tryz
section
open Go.RowKit NB
section
variable {H:Type} {enc:TypeId×Value→H} {w:World} {base:Nat} {spare:Addr→Bool} {held:Bool}
theorem cOcc3:prog.cellsOf 156=3:=by kernel_rfl
theorem cInt1:prog.cellsOf 3=1:=by kernel_rfl
theorem cInt64:prog.cellsOf 2=1:=by kernel_rfl
set_option maxRecDepth 100000 in
theorem start_cells {fuel:Nat} {cs:List Value} {a b c:Int} {p:List MemPlace} (h:DataW.trod (fun _:TypeId×Value=>()) prog w 0 (fun _=>true) false fuel 156 cs=some (.agg [.lit (.int .i64 a),.lit (.int .i64 b),.lit (.int .i64 c)],p)):cs=[.int .i64 a,.int .i64 b,.int .i64 c]:=by
 obtain ⟨xs,n,_,ex,hlen,hxl,hg⟩:=DataW.trod_struct underlying156 h;have hxl3:xs.length=3:=hxl
 match cs,hlen.trans cOcc3,xs,hxl3 with
 | [v0,v1,v2],_,[x0,x1,x2],_=>
   have g0:DataW.trod (fun _:TypeId×Value=>()) prog w 0 (fun _=>true) false n 3 (([v0,v1,v2].drop 0).take (prog.cellsOf 3))=some x0:=hg 0 _ rfl;rw [cInt1] at g0;replace g0:DataW.trod (fun _:TypeId×Value=>()) prog w 0 (fun _=>true) false n 3 [v0]=some x0:=g0;have g1:DataW.trod (fun _:TypeId×Value=>()) prog w 0 (fun _=>true) false n 3 (([v0,v1,v2].drop 1).take (prog.cellsOf 3))=some x1:=hg 1 _ rfl;rw [cInt1] at g1;replace g1:DataW.trod (fun _:TypeId×Value=>()) prog w 0 (fun _=>true) false n 3 [v1]=some x1:=g1;have g2:DataW.trod (fun _:TypeId×Value=>()) prog w 0 (fun _=>true) false n 2 (([v0,v1,v2].drop 2).take (prog.cellsOf 2))=some x2:=hg 2 _ rfl;rw [cInt64] at g2;replace g2:DataW.trod (fun _:TypeId×Value=>()) prog w 0 (fun _=>true) false n 2 [v2]=some x2:=g2;obtain ⟨n0,e0,rfl,_⟩:=DataW.trod_int underlying3 g0;obtain ⟨n1,e1,rfl,_⟩:=DataW.trod_int underlying3 g1;obtain ⟨n2,e2,rfl,_⟩:=DataW.trod_int underlying2 g2;have e3:=DataW.agg.inj (Prod.mk.inj ex).1;simp only [List.map_cons,List.map_nil,List.cons.injEq,and_true,DataW.lit.injEq,Lit.int.injEq,true_and] at e3;obtain ⟨rfl,rfl,rfl⟩:=e3;simp only [List.cons.injEq,and_true] at e0 e1 e2;rw [e0,e1,e2]
end
theorem sta_at {W:World} (h:W.ShapedOpen prog) (hL:laidMetH prog [("unicode/utf8.acceptRanges",Rows.laid_unicode_utf8_acceptRanges),("noontide/force.start",Rows.laid_noontide_force_start),("unicode/utf8.first",Rows.laid_unicode_utf8_first)] W):Sta W:=by
 rw [MakeChecks.laidMetH_plain _ _ _ (by kernel_rfl)] at hL;obtain ⟨ps,⟨g1,t1,cs1,fuel1,p1,q1,_,_,_,_,⟨g,t,cs,fuel,p,q,hg,ht,hv,hd,_,_⟩,_⟩,_⟩:=hL
 obtain rfl:=Option.some.inj ((show prog.globalNamed "noontide/force.start" =some 0 by kernel_rfl).symm.trans hg)
 obtain rfl:=Option.some.inj ((show (prog.globals[0]?).map (·.type)=some 156 by kernel_rfl).symm.trans ht);have hcs:=start_cells hd;obtain ⟨cs',hh,_,_⟩:=h.1 0 #[.int .i64 0,.int .i64 0,.int .i64 0] 156 (of_decide_eq_true (by kernel_rfl)) (by kernel_rfl);have e:cs'=cs:=by
  unfold World.var? at hv;rw [hg] at hv;simp only [Option.bind_some] at hv;rw [hh] at hv;exact Option.some.inj hv
 subst e;have e2:cs'=#[.int .i64 (-1),.int .i64 0,.int .i64 (-2192387558400)]:=Array.ext' hcs;rw [e2] at hh;exact hh
namespace Card
noncomputable def laidWorldS (os:Os):World:=
 { laidWorld os with heap:=(laidWorld os).heap.modify 0 fun
   | .cells _ t frozen=>.cells #[.int .i64 (-1),.int .i64 0,.int .i64 (-2192387558400)] t frozen
   |o=>o}
end Card
end
section
open Go.RowKit Go.ChangeShapes Go.WideShapes
theorem tab_at {W:World} (h:W.ShapedOpen prog):Tab W:=cell_of_shapedOpen_int (zero:=#[.int .i64 0]) (t:=3) h (of_decide_eq_true (by kernel_rfl)) (by kernel_rfl) rfl (by kernel_rfl) (by kernel_rfl) underlying3
end
end Go.Proofs.YtgmfojgnjdpofaaGreatDoor
