import Derived.Test.YtgmfojgnjdpofaaGreatDoorH3
import Derived.Test.YtgmfojgnjdpofaaGreatDoorH16
import Derived.Shelf.Vars
namespace Go.Proofs.YtgmfojgnjdpofaaGreatDoor
open Go.Proofs.Tryz
open Go.RowKit Go.ChangeShapes Go.WideShapes
structure OnV where
 kind:Int
 week:Int
 day:Int
def OnV.cells (o:OnV):List Value:=[.int .i64 o.kind,.int .i64 o.week,.int .i64 o.day]
structure AtV where
 sec:Int
 base:Int
def AtV.cells (o:AtV):List Value:=[.int .i64 o.sec,.int .i64 o.base]
section
variable {H:Type} {enc:TypeId×Value→H} {w:World} {base:Nat} {spare:Nat→Bool} {held:Bool}
theorem open_b {fuel:Nat} {t:TypeId} {c:Value} {o:Option (DataW H×List MemPlace)} (ht:prog.underlying t=some .bool) (h:DataW.trod enc prog w base spare held fuel t [c]=o) (ho:∃ y,o=some y):∃ b,c=.bool b∧True:=by
 obtain ⟨y,rfl⟩:=ho;obtain ⟨n,h1,_⟩:=DataW.trod_bool ht h;simp only [List.cons.injEq,and_true] at h1;exact ⟨n,h1,trivial⟩
set_option maxRecDepth 100000 in
theorem on_cells {fuel:Nat} {cs:List Value} {x:DataW H×List MemPlace} (h:DataW.trod enc prog w base spare held fuel 47 cs=some x):∃ o:OnV,cs=o.cells∧True:=by
 obtain ⟨xs,n,_,_,hlen,hxl,hg⟩:=DataW.trod_struct underlying47 h
 match cs,hlen.trans (show prog.cellsOf 47=3 by kernel_rfl) with
 | [v0,v1,v2],_=>
   have hxl8:xs.length=3:=hxl;have g0:DataW.trod enc prog w base spare held n 3 (([v0,v1,v2].drop 0).take (prog.cellsOf 3))=xs[0]? :=hg 0 _ rfl;rw [show prog.cellsOf 3=1 by kernel_rfl] at g0;replace g0:DataW.trod enc prog w base spare held n 3 [v0]=xs[0]? :=g0;have g1:DataW.trod enc prog w base spare held n 3 (([v0,v1,v2].drop 1).take (prog.cellsOf 3))=xs[1]? :=hg 1 _ rfl;rw [show prog.cellsOf 3=1 by kernel_rfl] at g1;replace g1:DataW.trod enc prog w base spare held n 3 [v1]=xs[1]? :=g1;have g2:DataW.trod enc prog w base spare held n 3 (([v0,v1,v2].drop 2).take (prog.cellsOf 3))=xs[2]? :=hg 2 _ rfl;rw [show prog.cellsOf 3=1 by kernel_rfl] at g2;replace g2:DataW.trod enc prog w base spare held n 3 [v2]=xs[2]? :=g2;obtain ⟨n0,rfl,z0⟩:=open_i underlying3 g0 (at_some hxl8 (by decide));obtain ⟨n1,rfl,z1⟩:=open_i underlying3 g1 (at_some hxl8 (by decide));obtain ⟨n2,rfl,z2⟩:=open_i underlying3 g2 (at_some hxl8 (by decide));exact ⟨⟨n0,n1,n2⟩,rfl,trivial⟩
set_option maxRecDepth 100000 in
theorem at_cells {fuel:Nat} {cs:List Value} {x:DataW H×List MemPlace} (h:DataW.trod enc prog w base spare held fuel 49 cs=some x):∃ o:AtV,cs=o.cells∧I64 o.sec:=by
 obtain ⟨xs,n,_,_,hlen,hxl,hg⟩:=DataW.trod_struct underlying49 h
 match cs,hlen.trans (show prog.cellsOf 49=2 by kernel_rfl) with
 | [v0,v1],_=>
   have hxl8:xs.length=2:=hxl;have g0:DataW.trod enc prog w base spare held n 2 (([v0,v1].drop 0).take (prog.cellsOf 2))=xs[0]? :=hg 0 _ rfl;rw [show prog.cellsOf 2=1 by kernel_rfl] at g0;replace g0:DataW.trod enc prog w base spare held n 2 [v0]=xs[0]? :=g0;have g1:DataW.trod enc prog w base spare held n 3 (([v0,v1].drop 1).take (prog.cellsOf 3))=xs[1]? :=hg 1 _ rfl;rw [show prog.cellsOf 3=1 by kernel_rfl] at g1;replace g1:DataW.trod enc prog w base spare held n 3 [v1]=xs[1]? :=g1;obtain ⟨n0,rfl,z0⟩:=open_i underlying2 g0 (at_some hxl8 (by decide));obtain ⟨n1,rfl,z1⟩:=open_i underlying3 g1 (at_some hxl8 (by decide));exact ⟨⟨n0,n1⟩,rfl,lit_i64 z0⟩
set_option maxRecDepth 100000 in
theorem until_cells {fuel:Nat} {cs:List Value} {x:DataW H×List MemPlace} (h:DataW.trod enc prog w base spare held fuel 51 cs=some x):∃ u:UntilV,cs=u.cells∧u.Fit:=by
 obtain ⟨xs,n,_,_,hlen,hxl,hg⟩:=DataW.trod_struct underlying51 h
 match cs,hlen.trans (show prog.cellsOf 51=8 by kernel_rfl) with
 | [v0,v1,v2,v3,v4,v5,v6,v7],_=>
   have hxl8:xs.length=5:=hxl;have g0:DataW.trod enc prog w base spare held n 4 (([v0,v1,v2,v3,v4,v5,v6,v7].drop 0).take (prog.cellsOf 4))=xs[0]? :=hg 0 _ rfl;rw [show prog.cellsOf 4=1 by kernel_rfl] at g0;replace g0:DataW.trod enc prog w base spare held n 4 [v0]=xs[0]? :=g0;have g1:DataW.trod enc prog w base spare held n 3 (([v0,v1,v2,v3,v4,v5,v6,v7].drop 1).take (prog.cellsOf 3))=xs[1]? :=hg 1 _ rfl;rw [show prog.cellsOf 3=1 by kernel_rfl] at g1;replace g1:DataW.trod enc prog w base spare held n 3 [v1]=xs[1]? :=g1;have g2:DataW.trod enc prog w base spare held n 3 (([v0,v1,v2,v3,v4,v5,v6,v7].drop 2).take (prog.cellsOf 3))=xs[2]? :=hg 2 _ rfl;rw [show prog.cellsOf 3=1 by kernel_rfl] at g2;replace g2:DataW.trod enc prog w base spare held n 3 [v2]=xs[2]? :=g2;have g3:DataW.trod enc prog w base spare held n 47 (([v0,v1,v2,v3,v4,v5,v6,v7].drop 3).take (prog.cellsOf 47))=xs[3]? :=hg 3 _ rfl;rw [show prog.cellsOf 47=3 by kernel_rfl] at g3;replace g3:DataW.trod enc prog w base spare held n 47 [v3,v4,v5]=xs[3]? :=g3;have g4:DataW.trod enc prog w base spare held n 49 (([v0,v1,v2,v3,v4,v5,v6,v7].drop 6).take (prog.cellsOf 49))=xs[4]? :=hg 4 _ rfl;rw [show prog.cellsOf 49=2 by kernel_rfl] at g4;replace g4:DataW.trod enc prog w base spare held n 49 [v6,v7]=xs[4]? :=g4;obtain ⟨n0,rfl,z0⟩:=open_b underlying4 g0 (at_some hxl8 (by decide));obtain ⟨n1,rfl,z1⟩:=open_i underlying3 g1 (at_some hxl8 (by decide));obtain ⟨n2,rfl,z2⟩:=open_i underlying3 g2 (at_some hxl8 (by decide));obtain ⟨y3,hy3⟩:=at_some (i:=3) hxl8 (by decide);rw [hy3] at g3;obtain ⟨s3,hs3,f3⟩:=on_cells g3;unfold OnV.cells at hs3;simp only [List.cons.injEq,and_true] at hs3;obtain ⟨rfl,rfl,rfl⟩:=hs3;obtain ⟨y4,hy4⟩:=at_some (i:=4) hxl8 (by decide);rw [hy4] at g4;obtain ⟨s4,hs4,f4⟩:=at_cells g4;unfold AtV.cells at hs4;simp only [List.cons.injEq,and_true] at hs4;obtain ⟨rfl,rfl⟩:=hs4;exact ⟨⟨n0,n1,n2,s3.kind,s3.week,s3.day,s4.sec,s4.base⟩,rfl,⟨lit_i64 z1,f4⟩⟩
set_option maxRecDepth 100000 in
theorem era_cells {fuel:Nat} {cs:List Value} {x:DataW H×List MemPlace} (h:DataW.trod enc prog w base spare held fuel 53 cs=some x):∃ e:EraV,cs=e.cells∧e.Fit:=by
 obtain ⟨xs,n,_,_,hlen,hxl,hg⟩:=DataW.trod_struct underlying53 h
 match cs,hlen.trans (show prog.cellsOf 53=13 by kernel_rfl) with
 | [v0,v1,v2,v3,v4,v5,v6,v7,v8,v9,v10,v11,v12],_=>
   have hxl8:xs.length=6:=hxl;have g0:DataW.trod enc prog w base spare held n 2 (([v0,v1,v2,v3,v4,v5,v6,v7,v8,v9,v10,v11,v12].drop 0).take (prog.cellsOf 2))=xs[0]? :=hg 0 _ rfl;rw [show prog.cellsOf 2=1 by kernel_rfl] at g0;replace g0:DataW.trod enc prog w base spare held n 2 [v0]=xs[0]? :=g0;have g1:DataW.trod enc prog w base spare held n 3 (([v0,v1,v2,v3,v4,v5,v6,v7,v8,v9,v10,v11,v12].drop 1).take (prog.cellsOf 3))=xs[1]? :=hg 1 _ rfl;rw [show prog.cellsOf 3=1 by kernel_rfl] at g1;replace g1:DataW.trod enc prog w base spare held n 3 [v1]=xs[1]? :=g1;have g2:DataW.trod enc prog w base spare held n 2 (([v0,v1,v2,v3,v4,v5,v6,v7,v8,v9,v10,v11,v12].drop 2).take (prog.cellsOf 2))=xs[2]? :=hg 2 _ rfl;rw [show prog.cellsOf 2=1 by kernel_rfl] at g2;replace g2:DataW.trod enc prog w base spare held n 2 [v2]=xs[2]? :=g2;have g3:DataW.trod enc prog w base spare held n 9 (([v0,v1,v2,v3,v4,v5,v6,v7,v8,v9,v10,v11,v12].drop 3).take (prog.cellsOf 9))=xs[3]? :=hg 3 _ rfl;rw [show prog.cellsOf 9=1 by kernel_rfl] at g3;replace g3:DataW.trod enc prog w base spare held n 9 [v3]=xs[3]? :=g3;have g4:DataW.trod enc prog w base spare held n 9 (([v0,v1,v2,v3,v4,v5,v6,v7,v8,v9,v10,v11,v12].drop 4).take (prog.cellsOf 9))=xs[4]? :=hg 4 _ rfl;rw [show prog.cellsOf 9=1 by kernel_rfl] at g4;replace g4:DataW.trod enc prog w base spare held n 9 [v4]=xs[4]? :=g4;have g5:DataW.trod enc prog w base spare held n 51 (([v0,v1,v2,v3,v4,v5,v6,v7,v8,v9,v10,v11,v12].drop 5).take (prog.cellsOf 51))=xs[5]? :=hg 5 _ rfl;rw [show prog.cellsOf 51=8 by kernel_rfl] at g5;replace g5:DataW.trod enc prog w base spare held n 51 [v5,v6,v7,v8,v9,v10,v11,v12]=xs[5]? :=g5;obtain ⟨n0,rfl,z0⟩:=open_i underlying2 g0 (at_some hxl8 (by decide));obtain ⟨n1,rfl,z1⟩:=open_i underlying3 g1 (at_some hxl8 (by decide));obtain ⟨n2,rfl,z2⟩:=open_i underlying2 g2 (at_some hxl8 (by decide));obtain ⟨n3,rfl,z3⟩:=open_s underlying9 g3 (at_some hxl8 (by decide));obtain ⟨n4,rfl,z4⟩:=open_s underlying9 g4 (at_some hxl8 (by decide));obtain ⟨y5,hy5⟩:=at_some (i:=5) hxl8 (by decide);rw [hy5] at g5;obtain ⟨s5,hs5,f5⟩:=until_cells g5;unfold UntilV.cells at hs5;simp only [List.cons.injEq,and_true] at hs5;obtain ⟨rfl,rfl,rfl,rfl,rfl,rfl,rfl,rfl⟩:=hs5;exact ⟨⟨n0,n1,n2,n3,n4,s5⟩,rfl,⟨z3,z4,lit_i64 z0,lit_i64 z2,f5.year,f5.sec⟩⟩
theorem eras_open {fuel:Nat} {cs:List Value} {x:DataW H×List MemPlace} (h:DataW.trod enc prog w base spare held fuel 64 cs=some x):∃ (v:Value) (l:List EraV),cs=[v]∧HoldsE w v l∧(l=[]∨∃ es sp,x.1=.slice es sp∧es.length=l.length):=by
 rcases Deep.open_slice underlying64 h with ⟨rfl,_⟩|⟨a,len,cap,m,n,D,Pl,rfl,hb,hl,hm,hmm,hxx,hx⟩
 ·exact ⟨_,[],rfl,⟨.inl ⟨_,_,rfl,rfl⟩,by simp,by simp⟩,.inl rfl⟩
 ·have hlm:len≤m:=by rw [hmm];split<;>omega
  have each:∀ i,i<m→∃ r:EraV,w.cells? base (a.add (i*13)) 13=some r.cells∧r.Fit:=by
   intro i hi;obtain ⟨cs',h1,h2⟩:=hx i hi;obtain ⟨r,rfl,hf⟩:=era_cells h2;rw [show prog.cellsOf 53=13 by kernel_rfl] at h1;exact ⟨r,h1,hf⟩
  by_cases h0:len=0
  ·subst h0;exact ⟨_,[],rfl,⟨.inl ⟨_,_,rfl,rfl⟩,by simp,by simp⟩,.inl rfl⟩
  ·obtain ⟨q,hq⟩:∃ q:Nat→EraV,∀ i,i<m→w.cells? base (a.add (i*13)) 13=some (q i).cells∧(q i).Fit:=
    ⟨fun i=>if hi:i<m then (each i hi).choose else ⟨0,0,0,⟨#[]⟩,⟨#[]⟩,⟨false,0,0,0,0,0,0,0⟩⟩,fun i hi=>by simp only [dif_pos hi];exact (each i hi).choose_spec⟩
   obtain ⟨ha,hab⟩:=info_cells (hq 0 (by omega)).1 (by decide);have ha':a=⟨a.block,a.off,none⟩:=by
    have:(a.add (0*13)).spot=a.spot:=by simp [Addr.add]
    rw [this] at ha;cases a;simp only at ha;rw [ha]
   have hab':a.block<w.heap.size:=by
    have:(a.add (0*13)).block=a.block:=by simp [Addr.add]
    rwa [this] at hab
   refine ⟨_,(List.range len).map q,rfl,⟨.inr ⟨a.block,a.off,cap,by rw [← ha'];simp,hab',?_⟩,?_,by simp;unfold maxLen at hm;omega⟩,.inr ⟨_,_,by rw [hxx],by simp⟩⟩
   ·intro i j c v hi hj;rw [List.map_map,List.getElem?_map] at hi;cases hr:(List.range len)[i]? with
    |none=>rw [hr] at hi;cases hi
    |some k=>
     rw [hr] at hi;cases hi;obtain ⟨hk,rfl⟩:=List.getElem?_eq_some_iff.1 hr;rw [List.length_range] at hk;simp only [List.getElem_range] at hj ⊢;obtain ⟨_,hlen,hcell⟩:=World.cells?_some (hq i (by omega)).1;have hj11:j<13:=by
      have:=(List.getElem?_eq_some_iff.1 hj).1;exact this
     have:=hcell j hj11;rw [Deep.add_add] at this;have he:a.add (i*13+j)=⟨a.block,a.off+i*13+j,none⟩:=by
      rw [Nat.add_assoc]
      conv=>lhs;rw [ha']
      exact addr_add _ _ _
     rw [he] at this;rw [this];exact hj
   ·intro r hr;rw [List.mem_map] at hr;obtain ⟨i,hi,rfl⟩:=hr;exact (hq i (by rw [List.mem_range] at hi;omega)).2
set_option maxRecDepth 100000 in
theorem zone_cells {fuel:Nat} {cs:List Value} {x:DataW H×List MemPlace} (h:DataW.trod enc prog w base spare held fuel 66 cs=some x):∃ (a:ByteArray) (v:Value) (es:List EraV),cs=[.string a,v]∧a.size≤9223372036854775807∧HoldsE w v es:=by
 obtain ⟨xs,n,_,_,hlen,hxl,hg⟩:=DataW.trod_struct underlying66 h
 match cs,hlen.trans (show prog.cellsOf 66=2 by kernel_rfl) with
 | [v0,v1],_=>
   have hxl8:xs.length=2:=hxl;have g0:DataW.trod enc prog w base spare held n 9 (([v0,v1].drop 0).take (prog.cellsOf 9))=xs[0]? :=hg 0 _ rfl;rw [show prog.cellsOf 9=1 by kernel_rfl] at g0;replace g0:DataW.trod enc prog w base spare held n 9 [v0]=xs[0]? :=g0;have g1:DataW.trod enc prog w base spare held n 64 (([v0,v1].drop 1).take (prog.cellsOf 64))=xs[1]? :=hg 1 _ rfl;rw [show prog.cellsOf 64=1 by kernel_rfl] at g1;replace g1:DataW.trod enc prog w base spare held n 64 [v1]=xs[1]? :=g1;obtain ⟨n0,rfl,z0⟩:=open_s underlying9 g0 (at_some hxl8 (by decide));obtain ⟨y1,hy1⟩:=at_some (i:=1) hxl8 (by decide);rw [hy1] at g1;obtain ⟨w1,s1,hs1,f1,q1⟩:=eras_open g1;simp only [List.cons.injEq,and_true] at hs1;obtain rfl:=hs1;exact ⟨_,_,_,rfl,z0,f1⟩
end
end Go.Proofs.YtgmfojgnjdpofaaGreatDoor
