import Derived.Test.YtgmfojgnjdpofaaGreatDoorH17
import Derived.Test.YtgmfojgnjdpofaaGreatDoorH15
import Derived.OwnWalk
import Derived.Test.YtgmfojgnjdpofaaGreatDoorH14
import Derived.Test.YtgmfojgnjdpofaaGreatDoorH3
namespace Go.Proofs.YtgmfojgnjdpofaaGreatDoor
open Go.Proofs.Tryz
section
open Go.RowKit Go.ChangeShapes Go.WideShapes
structure LinkV where
 target:ByteArray
 name:ByteArray
deriving DecidableEq
def LinkV.cells (x:LinkV):List Value:=[.string x.target,.string x.name]
structure LinkV.Fit (x:LinkV):Prop where
 t:x.target.size≤9223372036854775807
 n:x.name.size≤9223372036854775807
structure ZoneV where
 name:ByteArray
 v:Value
 es:List EraV
def ZoneV.cells (x:ZoneV):List Value:=[.string x.name,x.v]
structure ZoneV.Fit (w:World) (x:ZoneV):Prop where
 n:x.name.size≤9223372036854775807
 e:HoldsE w x.v x.es
theorem ZoneV.Fit.later {w w':World} {x:ZoneV} (h:x.Fit w) (hb:Below w.heap.size w w'):x.Fit w':=⟨h.n,h.e.later hb⟩
structure TabV where
 rv:Value
 zv:Value
 lv:Value
 rs:List RuleV
 zs:List ZoneV
 ls:List LinkV
def TabV.cells (t:TabV):List Value:=[t.rv,t.zv,t.lv]
structure HoldsT (w:World) (t:TabV):Prop where
 r:Holds w t.rv t.rs
 z:HoldsG 2 ZoneV.cells w t.zv t.zs
 zf:∀ x∈t.zs,x.Fit w
 l:HoldsG 2 LinkV.cells w t.lv t.ls
 lf:∀ x∈t.ls,x.Fit
theorem HoldsT.later {w w':World} {t:TabV} (h:HoldsT w t) (hb:Below w.heap.size w w'):HoldsT w' t:=
 ⟨h.r.later hb,h.z.later hb,fun x hx=>(h.zf x hx).later hb,h.l.later hb,h.lf⟩
instance:Inhabited LinkV:=⟨⟨⟨#[]⟩,⟨#[]⟩⟩⟩
instance:Inhabited ZoneV:=⟨⟨⟨#[]⟩,.slice none 0 0,[]⟩⟩
section
variable {H:Type} {enc:TypeId×Value→H} {w:World} {base:Nat} {spare:Nat→Bool} {held:Bool}
set_option maxRecDepth 100000 in
theorem link_cells {fuel:Nat} {cs:List Value} {x:DataW H×List MemPlace} (h:DataW.trod enc prog w base spare held fuel 146 cs=some x):∃ x:LinkV,cs=x.cells∧x.Fit:=by
 obtain ⟨xs,n,_,hx1,hlen,hxl,hg⟩:=DataW.trod_struct underlying146 h
 match cs,hlen.trans (show prog.cellsOf 146=2 by kernel_rfl) with
 | [v0,v1],_=>
   have hxl8:xs.length=2:=hxl;have g0:DataW.trod enc prog w base spare held n 9 (([v0,v1].drop 0).take (prog.cellsOf 9))=xs[0]? :=hg 0 _ rfl;rw [show prog.cellsOf 9=1 by kernel_rfl] at g0;replace g0:DataW.trod enc prog w base spare held n 9 [v0]=xs[0]? :=g0;have g1:DataW.trod enc prog w base spare held n 9 (([v0,v1].drop 1).take (prog.cellsOf 9))=xs[1]? :=hg 1 _ rfl;rw [show prog.cellsOf 9=1 by kernel_rfl] at g1;replace g1:DataW.trod enc prog w base spare held n 9 [v1]=xs[1]? :=g1;obtain ⟨n0,rfl,z0⟩:=open_s underlying9 g0 (at_some hxl8 (by decide));obtain ⟨n1,rfl,z1⟩:=open_s underlying9 g1 (at_some hxl8 (by decide));exact ⟨⟨n0,n1⟩,rfl,⟨z0,z1⟩⟩
theorem zoneV_cells {fuel:Nat} {cs:List Value} {x:DataW H×List MemPlace} (h:DataW.trod enc prog w base spare held fuel 66 cs=some x):∃ z:ZoneV,cs=z.cells∧z.Fit w:=by
 obtain ⟨a,v,es,rfl,h1,h2⟩:=zone_cells h;exact ⟨⟨a,v,es⟩,rfl,⟨h1,h2⟩⟩
theorem zones_open {fuel:Nat} {cs:List Value} {x:DataW H×List MemPlace} (h:DataW.trod enc prog w base spare held fuel 23 cs=some x):
 ∃ (v:Value) (l:List ZoneV),cs=[v]∧(HoldsG 2 ZoneV.cells w v l∧∀ a∈l,a.Fit w)∧(l=[]∨∃ es sp,x.1=.slice es sp∧es.length=l.length):=
 slice_open (k:=2) (f:=ZoneV.cells) (F:=ZoneV.Fit w) (fun _=>rfl) (by decide) underlying23 (by kernel_rfl) zoneV_cells h
theorem links_open {fuel:Nat} {cs:List Value} {x:DataW H×List MemPlace} (h:DataW.trod enc prog w base spare held fuel 24 cs=some x):
 ∃ (v:Value) (l:List LinkV),cs=[v]∧(HoldsG 2 LinkV.cells w v l∧∀ a∈l,a.Fit)∧(l=[]∨∃ es sp,x.1=.slice es sp∧es.length=l.length):=
 slice_open (k:=2) (f:=LinkV.cells) (F:=LinkV.Fit) (fun _=>rfl) (by decide) underlying24 (by kernel_rfl) link_cells h
set_option maxRecDepth 100000 in
theorem table_cells {fuel:Nat} {cs:List Value} {x:DataW H×List MemPlace} (h:DataW.trod enc prog w base spare held fuel 26 cs=some x):∃ t:TabV,cs=t.cells∧HoldsT w t:=by
 obtain ⟨xs,n,_,hx1,hlen,hxl,hg⟩:=DataW.trod_struct underlying26 h
 match cs,hlen.trans (show prog.cellsOf 26=3 by kernel_rfl) with
 | [v0,v1,v2],_=>
   have hxl8:xs.length=3:=hxl;have g0:DataW.trod enc prog w base spare held n 22 (([v0,v1,v2].drop 0).take (prog.cellsOf 22))=xs[0]? :=hg 0 _ rfl;rw [show prog.cellsOf 22=1 by kernel_rfl] at g0;replace g0:DataW.trod enc prog w base spare held n 22 [v0]=xs[0]? :=g0;have g1:DataW.trod enc prog w base spare held n 23 (([v0,v1,v2].drop 1).take (prog.cellsOf 23))=xs[1]? :=hg 1 _ rfl;rw [show prog.cellsOf 23=1 by kernel_rfl] at g1;replace g1:DataW.trod enc prog w base spare held n 23 [v1]=xs[1]? :=g1;have g2:DataW.trod enc prog w base spare held n 24 (([v0,v1,v2].drop 2).take (prog.cellsOf 24))=xs[2]? :=hg 2 _ rfl;rw [show prog.cellsOf 24=1 by kernel_rfl] at g2;replace g2:DataW.trod enc prog w base spare held n 24 [v2]=xs[2]? :=g2;obtain ⟨y0,hy0⟩:=at_some (i:=0) hxl8 (by decide);rw [hy0] at g0;obtain ⟨w0,s0,hs0,f0,q0⟩:=rules_open g0;simp only [List.cons.injEq,and_true] at hs0;obtain rfl:=hs0;obtain ⟨y1,hy1⟩:=at_some (i:=1) hxl8 (by decide);rw [hy1] at g1;obtain ⟨w1,s1,hs1,f1,q1⟩:=zones_open g1;simp only [List.cons.injEq,and_true] at hs1;obtain rfl:=hs1;obtain ⟨y2,hy2⟩:=at_some (i:=2) hxl8 (by decide);rw [hy2] at g2;obtain ⟨w2,s2,hs2,f2,q2⟩:=links_open g2;simp only [List.cons.injEq,and_true] at hs2;obtain rfl:=hs2;exact ⟨⟨_,_,_,s0,s1,s2⟩,rfl,⟨f0,f1.1,f1.2,f2.1,f2.2⟩⟩
end
end
section
namespace SrtS
def bts (l:List ByteArray):List (List UInt8):=l.map fun s=>s.data.toList
def unb (l:List (List UInt8)):List ByteArray:=l.map fun x=>⟨x.toArray⟩
def sortL (l:List ByteArray):List ByteArray:=unb ((bts l).mergeSort fun x y=>decide (x≤y))
end SrtS
namespace Bk
open Go.RowKit
abbrev S:=ByteArray
def follow (f:S→Option S):Nat→S→Option S
 |0,_=>none
 |n+1,s=>match f s with
  |none=>some s
  |some t=>follow f n t
def it (f:S→Option S):Nat→S→S
 |0,s=>s
 |i+1,s=>match f s with
  |none=>s
  |some t=>it f i t
def step (ls:List LinkV) (s:S):Option S:=(ls.find? fun x=>decide (x.name=s)).map LinkV.target
def zat (zs:List S) (s:S):Option Nat:=zs.findIdx? fun z=>decide (z=s)
def findV (zs:List S) (o:Option S):Int×Int:=match o with
 |none=>(0,13)
 |some e=>match zat zs e with
  |none=>(0,12)
  |some i=>(i,0)
def find (zs:List S) (ls:List LinkV) (s:S):Int×Int:=findV zs (follow (step ls) (ls.length+1) s)
open Mp
def fold (ps:List Ent) (L:List Ent):List Ent:=ps.foldl (fun L p=>put L p.1 p.2) L
def zps (zs:List S):List Ent:=zs.zipIdx.map fun p=>(p.1,.int .i64 (p.2:Int))
def lps (ls:List LinkV):List Ent:=ls.map fun x=>(x.name,.string x.target)
def zmap (zs:List S):List Ent:=fold (zps zs).reverse []
def lmap (ls:List LinkV):List Ent:=fold (lps ls).reverse []
end Bk
end
section
open Go.RowKit NB
namespace RBk
open Eqs
theorem step_none {ls:List LinkV} {s:ByteArray} {k:Nat} {x:LinkV} (h:Bk.step (ls.take k) s=none) (hx:ls[k]? =some x) (hn:x.name≠s):Bk.step (ls.take (k+1)) s=none:=by
 unfold Bk.step at *;rw [List.take_add_one,hx,List.find?_append];rw [Option.map_eq_none_iff] at h;simp [h,hn]
theorem step_some {ls:List LinkV} {s:ByteArray} {k:Nat} {x:LinkV} (h:Bk.step (ls.take k) s=none) (hx:ls[k]? =some x) (hn:x.name=s):Bk.step ls s=some x.target:=by
 unfold Bk.step at *;rw [Option.map_eq_none_iff] at h;have e:=List.take_append_drop k ls;rw [List.drop_eq_getElem?_toList_append,hx] at e;rw [← e,List.find?_append,h];simp [hn]
def stepV (o:Option ByteArray):Value:=.tuple #[.string (o.getD ⟨#[]⟩),.bool o.isSome]
set_option maxRecDepth 100000 in
set_option maxHeartbeats 3200000 in
theorem step {w:World} {v:Value} {ls:List LinkV} (h:HoldsG 2 LinkV.cells w v ls) (s:ByteArray):
 Calls prog 314 #[v,.string s] w fun e w'=>e=.returned (stepV (Bk.step ls s))∧Below w.heap.size w w':=by
 have l1:=h.len;obtain ⟨p,cap,rfl,hp⟩:=h.pk;obtain ⟨n,hn⟩:∃ n,n=ls.length:=⟨_,rfl⟩;rw [← hn] at l1 ⊢;have HN:=kj hn;have HP:=kj hp;clear hn hp h;go_enter func314,ntmps314;go_wp2
 go_loopw [10] (fun i wr=>∃ k:Nat,i=.int .i64 k∧k≤n∧Below w.heap.size w wr∧Hid (Bk.step (ls.take k) s=none)) (fun i _=>n-(intOf i).toNat)
 case atStart=>exact ⟨0,rfl,Nat.zero_le _,Below.refl _ _,rfl⟩
 case round=>
  obtain ⟨k,rfl,hk,hbr,HS⟩:=hrel
  by_cases hlt:k<n
  ·obtain ⟨x,hx⟩:∃ x,ls[k]? =some x:=⟨_,List.getElem?_eq_getElem (by rw [← HN.out];exact hlt)⟩;obtain ⟨g1,o1,rfl,hg1,d1⟩:=HP.out k x hx;replace d1:=fun j u hu=>(hbr.cell (p:=⟨g1,o1+k*2+j,none⟩) hg1).trans (d1 j u hu);have x0:=d1 0 _ rfl;have x1:=d1 1 _ rfl;rw [Nat.add_zero] at x0;clear d1;have q1:(k:Int)<(n:Int):=by omega
   have HX:=kj hx;clear hx
   by_cases he:x.name=s
   ·have e0:=str_eq he;have HE:=kj (step_some HS.out HX.out he);clear he;go_wp2;go_ret2;exact ⟨by rw [HE.out];rfl,bcq⟩
   ·have e0:=str_ne he;have HE:=kj (step_none HS.out HX.out he);clear he;go_wp2;go_roundw
    case rel=>exact ⟨k+1,by go_num,by omega,bcq,HE⟩
    case measure=>simp [intOf];omega
  ·obtain rfl:k=n:=by omega
   have HE:=HS.out;rw [List.take_of_length_le (by rw [← HN.out];exact Nat.le_refl _)] at HE;have H2:=kj HE;clear HE;go_wp2;go_ret2;exact ⟨by rw [H2.out];rfl,hbr⟩
def followV (o:Option ByteArray):Value:=.tuple #[.string (o.getD ⟨#[]⟩),.int .i64 (if o.isSome then 0 else 13)]
set_option maxRecDepth 100000 in
set_option maxHeartbeats 3200000 in
theorem Follow {w:World} {v:Value} {ls:List LinkV} (h:HoldsG 2 LinkV.cells w v ls) (hls:ls.length≤100000) (s:ByteArray):
 Calls prog 296 #[v,.string s] w fun e w'=>e=.returned (followV (Bk.follow (Bk.step ls) (ls.length+1) s))∧Below w.heap.size w w':=by
 obtain ⟨p,cap,rfl⟩:=h.form;have H:=kj h;clear h;obtain ⟨n,hn⟩:∃ n,n=ls.length:=⟨_,rfl⟩;rw [← hn] at hls H ⊢;obtain ⟨R,hR⟩:∃ R,R=Bk.follow (Bk.step ls) (n+1) s:=⟨_,rfl⟩;rw [← hR];have HR:=kj hR;clear hR hn;go_enter func296,ntmps296;go_wp2
 go_loopw [6,1] (fun i c wr=>∃ (k:Nat) (x:ByteArray),i=.int .i64 k∧c=.string x∧k≤n+1∧Below w.heap.size w wr∧Hid (R=Bk.follow (Bk.step ls) (n+1-k) x)) (fun i _ _=>n+1-(intOf i).toNat)
 case atStart=>exact ⟨0,s,rfl,rfl,Nat.zero_le _,Below.refl _ _,HR.out⟩
 case round=>
  obtain ⟨k,x,rfl,rfl,hk,hbr,HS⟩:=hrel
  by_cases hlt:k≤n
  ·have hs:=HS.out;rw [show n+1-k=(n-k)+1 by omega] at hs;have hc:=step (H.out.later hbr) x;obtain ⟨o,ho⟩:∃ o,o=Bk.step ls x:=⟨_,rfl⟩;unfold Bk.follow at hs;rw [← ho] at hc hs;clear ho;have q1:(k:Int)≤(n:Int):=by omega
   cases o with
   |none=>
    have HE:=kj hs;clear hs;unfold stepV at hc;simp only [Option.getD_none,Option.isSome_none] at hc
    go_wp2_with (go_at_call 314;refine hc.mono ?_;rintro e w1 ⟨rfl,hb1⟩)
    go_ret2;exact ⟨by rw [HE.out];rfl,bcq⟩
   |some y=>
    have HE:=kj hs;clear hs;unfold stepV at hc;simp only [Option.getD_some,Option.isSome_some] at hc
    go_wp2_with (go_at_call 314;refine hc.mono ?_;rintro e w1 ⟨rfl,hb1⟩)
    go_roundw
    case rel=>exact ⟨k+1,y,by go_num,rfl,by omega,bcq,by rw [show n+1-(k+1)=n-k by omega];exact HE.out⟩
    case measure=>simp [intOf];omega
  ·obtain rfl:k=n+1:=by omega
   have hs:=HS.out;rw [Nat.sub_self] at hs;have HE:=kj hs;clear hs;go_wp2;go_ret2;exact ⟨by rw [HE.out];rfl,bcq⟩
def mem (s:ByteArray) (l:List ByteArray):Bool:=l.any fun x=>decide (x=s)
theorem zat_none {zs:List ZoneV} {s:ByteArray} {k:Nat} {x:ZoneV} (h:Bk.zat ((zs.take k).map ZoneV.name) s=none) (hx:zs[k]? =some x) (hn:x.name≠s):Bk.zat ((zs.take (k+1)).map ZoneV.name) s=none:=by
 unfold Bk.zat at *;rw [List.take_add_one,hx,List.map_append,List.findIdx?_append,h];simp [hn]
theorem zat_some {zs:List ZoneV} {s:ByteArray} {k:Nat} {x:ZoneV} (h:Bk.zat ((zs.take k).map ZoneV.name) s=none) (hx:zs[k]? =some x) (hn:x.name=s):Bk.zat (zs.map ZoneV.name) s=some k:=by
 unfold Bk.zat at *;have hk:=(List.getElem?_eq_some_iff.1 hx).1;have e:=List.take_append_drop k zs;rw [List.drop_eq_getElem?_toList_append,hx] at e;rw [← e,List.map_append,List.findIdx?_append,h];simp [hn,List.findIdx?_cons,Nat.min_eq_left (Nat.le_of_lt hk)]
def zn (t:TabV):List ByteArray:=t.zs.map ZoneV.name
def findR (t:TabV) (s:ByteArray):Int×Int:=Bk.find (zn t) t.ls s
def pairV (x:Int×Int):Value:=.tuple #[.int .i64 x.1,.int .i64 x.2]
set_option maxRecDepth 100000 in
set_option maxHeartbeats 3200000 in
theorem Find {w:World} {t:TabV} (h:HoldsT w t) (hls:t.ls.length≤100000) (s:ByteArray):
 Calls prog 265 #[.agg #[t.rv,t.zv,t.lv],.string s] w fun e w'=>e=.returned (pairV (findR t s))∧Below w.heap.size w w':=by
 obtain ⟨F,hF⟩:∃ F,F=findR t s:=⟨_,rfl⟩;have hF2:=hF;unfold findR Bk.find Bk.findV zn at hF2;obtain ⟨o,ho⟩:∃ o,o=Bk.follow (Bk.step t.ls) (t.ls.length+1) s:=⟨_,rfl⟩;rw [← ho] at hF2;have hfol:∀ W:World,Below w.heap.size w W→Calls prog 296 #[t.lv,.string s] W fun e w'=>e=.returned (followV o)∧Below W.heap.size W w':=fun W hW=>by rw [ho];exact Follow (h.l.later hW) hls s
 clear ho;rw [← hF];clear hF;have hz:=h.z;have hzf:=h.zf;obtain ⟨rv,zv,lv,rs,zs,ls⟩:=t;dsimp only at *;have l1:=hz.len;obtain ⟨p,cap,rfl,hp⟩:=hz.pk;obtain ⟨pr,cr,e1⟩:=h.r.form;obtain ⟨pl,cl,e2⟩:=h.l.form;dsimp only at e1 e2;subst e1 e2;obtain ⟨n,hn⟩:∃ n,n=zs.length:=⟨_,rfl⟩;rw [← hn] at l1 ⊢;have HN:=kj hn;have HP:=kj hp;have HZ:=kj hzf;clear hn hp hz h hls hzf;generalize rs.length=nr at *;generalize ls.length=nl at *;have hb0:=Box.new w #[.slice pr nr cr,.slice p n cap,.slice pl nl cl] 26;have hc:=hfol (w.alloc (.cells #[.slice pr nr cr,.slice p n cap,.slice pl nl cl] 26)) bcq;clear hfol;cases o with
 |none=>
  dsimp only at hF2;unfold followV at hc;simp only [Option.getD_none,Option.isSome_none] at hc;have HF:=kj hF2;clear hF2;go_enter func265,ntmps265
  go_wp2_with (go_at_call 296;refine hc.mono ?_;rintro e w1 ⟨rfl,hb1⟩)
  go_ret2;exact ⟨by rw [HF.out];rfl,bcq⟩
 |some x=>
  dsimp only at hF2;unfold followV at hc;simp only [Option.getD_some,Option.isSome_some] at hc;have HF:=kj hF2;clear hF2;go_enter func265,ntmps265
  go_wp2_with (go_at_call 296;refine hc.mono ?_;rintro e w1 ⟨rfl,hb1⟩;have c0:=(hb0.later hb1).cell;have b1:Below w.heap.size w w1:=bcq;clear hb1)
  go_loopw [23] (fun i wr=>∃ k:Nat,i=.int .i64 k∧k≤n∧Below w.heap.size w wr∧Hid (Bk.zat ((zs.take k).map ZoneV.name) x=none)) (fun i _=>n-(intOf i).toNat)
  case atStart=>exact ⟨0,rfl,Nat.zero_le _,b1,rfl⟩
  case round=>
   clear c0 b1;obtain ⟨k,rfl,hk,hbr,HS⟩:=hrel
   by_cases hlt:k<n
   ·obtain ⟨y,hy⟩:∃ y,zs[k]? =some y:=⟨_,List.getElem?_eq_getElem (by rw [← HN.out];exact hlt)⟩;obtain ⟨g1,o1,rfl,hg1,d1⟩:=HP.out k y hy;replace d1:=fun j u hu=>(hbr.cell (p:=⟨g1,o1+k*2+j,none⟩) hg1).trans (d1 j u hu);have x0:=d1 0 _ rfl;have x1:=d1 1 _ rfl;rw [Nat.add_zero] at x0;obtain ⟨q2,c2,hv2⟩:=(HZ.out y (List.mem_of_getElem? hy)).e.form;rw [hv2] at x1;clear hv2;generalize y.es.length=m2 at x1;clear d1;have q1:(k:Int)<(n:Int):=by omega
    have HX:=kj hy;clear hy
    by_cases he:y.name=x
    ·have e0:=str_eq he;have HE:=kj (zat_some HS.out HX.out he);clear he;go_wp2;go_ret2;exact ⟨by rw [HF.out,HE.out];rfl,bcq⟩
    ·have e0:=str_ne he;have HE:=kj (zat_none HS.out HX.out he);clear he;go_wp2;go_roundw
     case rel=>exact ⟨k+1,by go_num,by omega,bcq,HE⟩
     case measure=>simp [intOf];omega
   ·obtain rfl:k=n:=by omega
    have HE:=HS.out;rw [List.take_of_length_le (by rw [← HN.out];exact Nat.le_refl _)] at HE;have H2:=kj HE;clear HE;go_wp2;go_ret2;exact ⟨by rw [HF.out,H2.out];rfl,hbr⟩
end RBk
end
section
open Go.RowKit NB
namespace Bk
def ltb (a b:S):Bool:=Op.bytesLess a.toList b.toList
def putStep (s:S) (st:List S×Bool) (x:S):List S×Bool:=((if !st.2&&ltb s x then st.1++[s] else st.1)++[x],(!st.2&&ltb s x)||(st.2||decide (s=x)))
def putL (s:S) (l:List S):List S×Bool:=l.foldl (putStep s) ([],false)
def rput (l:List S) (s:S):List S:=if (putL s l).2 then (putL s l).1 else (putL s l).1++[s]
end Bk
namespace RBk
open Eqs
end RBk
end
section
open Go.RowKit NB
namespace Bk
def okN (zs:List S) (ls:List LinkV) (s:S):Bool:=decide ((find zs ls s).2=0)
def rnames (zs:List S) (ls:List LinkV):List S:=((zs++ls.map LinkV.name).filter (okN zs ls)).foldl rput []
def ralias (zs:List S) (ls:List LinkV) (z:Int):List S:=(rnames zs ls).filter fun s=>decide ((find zs ls s).1=z)
end Bk
namespace RBk
open Eqs
def out (zs:List ByteArray) (ls:List LinkV) (l:List ByteArray):List ByteArray:=(l.filter (Bk.okN zs ls)).foldl Bk.rput []
end RBk
end
section
open Go.RowKit NB
namespace Bk
def twStep (st:List S×Int) (x:S):List S×Int:=(st.1++[x],if st.2<0∧(st.1.any fun y=>decide (y=x))=true then (st.1.length:Int) else st.2)
def tw (done l:List S):List S×Int:=l.foldl twStep (done, -1)
theorem tw_fst (done l:List S):(tw done l).1=done++l:=by
 have h:∀ (l:List S) (st:List S×Int),(l.foldl twStep st).1=st.1++l:=by
  intro l
  induction l with
  |nil=>intro st;simp
  |cons x r ih=>intro st;rw [List.foldl_cons,ih];simp [twStep]
 exact h l _
def twice (done l:List S):Int:=if (tw done l).2<0 then -1 else (tw done l).2-done.length
theorem tw_lo (done l:List S):(tw done l).2= -1∨(done.length:Int)≤(tw done l).2:=by
 have h:∀ (l:List S) (st:List S×Int),done.length≤st.1.length→(st.2= -1∨(done.length:Int)≤st.2)→((l.foldl twStep st).2= -1∨(done.length:Int)≤(l.foldl twStep st).2):=by
  intro l
  induction l with
  |nil=>intro st _ h;exact h
  |cons x r ih=>
   intro st h0 h;rw [List.foldl_cons];refine ih _ (by simp [twStep];omega) ?_;unfold twStep;dsimp only
   split
   ·exact .inr (by omega)
   ·exact h
 exact h l _ (Nat.le_refl _) (.inl rfl)
theorem tw_succ {done l:List S} {k:Nat} {x:S} (hx:l[k]? =some x):tw done (l.take (k+1))=twStep (tw done (l.take k)) x:=by
 unfold tw;rw [List.take_add_one,hx,List.foldl_append];rfl
theorem twice_nil (done:List S):twice done []= -1:=rfl
theorem twice_succ {done l:List S} {k:Nat} {x:S} (hk:k<l.length) (hx:l[k]? =some x):twice done (l.take (k+1))=if twice done (l.take k)<0∧((done++l.take k).any fun y=>decide (y=x))=true then (k:Int) else twice done (l.take k):=by
 have h1:=tw_lo done (l.take k);have h3:(done++l.take k).length=done.length+k:=by rw [List.length_append,List.length_take,Nat.min_eq_left (Nat.le_of_lt hk)]
 unfold twice;rw [tw_succ hx];unfold twStep;rw [tw_fst,h3];dsimp only
 by_cases hm:((done++l.take k).any fun y=>decide (y=x))=true
 ·rcases h1 with h1|h1
  ·rw [h1];simp [hm];omega
  ·have:¬(tw done (l.take k)).2<0:=by omega
   have h5:¬((tw done (l.take k)).2-done.length<0):=by omega
   simp only [this,false_and,if_false,h5]
 ·simp only [hm];simp
end Bk
namespace RBk
open Eqs
def alia (zs:List ByteArray) (ls:List LinkV) (z:Int) (l:List ByteArray):List ByteArray:=l.filter fun s=>decide ((Bk.find zs ls s).1=z)
end RBk
end
section
open Go.RowKit NB
namespace RBk
open Eqs
def twiceV (zs:List ByteArray) (ls:List LinkV):Value:=.tuple #[.int .i64 (Bk.twice [] zs),.int .i64 (Bk.twice zs (ls.map LinkV.name))]
end RBk
end
section
namespace Chk
theorem check_start (l:List RuleV):check l=scan (l.take 0) (l.drop 0) (0:Nat):=rfl
theorem check_none {l:List RuleV} (h:∀ k r,l[k]? =some r→firstBad r (same r (l.take k))=0):check l=(-1,0):=by
 have H:∀ d k:Nat,k+d=l.length→scan (l.take k) (l.drop k) k=(-1,0):=by
  intro d
  induction d with
  |zero=>
   intro k hk;rw [List.drop_eq_nil_of_le (by omega)];rfl
  |succ d ih=>
   intro k hk;have hr:=List.getElem?_eq_getElem (l:=l) (i:=k) (by omega);rw [check_at hr,if_pos (h k _ hr)];exact ih (k+1) (by omega)
 rw [check_start];exact H l.length 0 (by omega)
theorem check_some {l:List RuleV} {k:Nat} {r:RuleV} (hr:l[k]? =some r) (hb:firstBad r (same r (l.take k))≠0) (h:∀ k' r',k'<k→l[k']? =some r'→firstBad r' (same r' (l.take k'))=0):check l=((k:Int),firstBad r (same r (l.take k))):=by
 have hk:k<l.length:=(List.getElem?_eq_some_iff.1 hr).1;have H:∀ d k':Nat,k'+d=k→scan (l.take k') (l.drop k') k'=((k:Int),firstBad r (same r (l.take k))):=by
  intro d
  induction d with
  |zero=>
   intro k' hk';obtain rfl:k'=k:=by omega
   rw [check_at hr,if_neg hb]
  |succ d ih=>
   intro k' hk';have hr':=List.getElem?_eq_getElem (l:=l) (i:=k') (by omega);rw [check_at hr',if_pos (h k' _ (by omega) hr')];exact ih (k'+1) (by omega)
 rw [check_start];exact H k 0 (by omega)
theorem check_cases (l:List RuleV):(∀ k r,l[k]? =some r→firstBad r (same r (l.take k))=0)∨∃ k r,l[k]? =some r∧firstBad r (same r (l.take k))≠0∧∀ k' r',k'<k→l[k']? =some r'→firstBad r' (same r' (l.take k'))=0:=by
 have H:∀ m,(∀ k r,k<m→l[k]? =some r→firstBad r (same r (l.take k))=0)∨∃ k r,l[k]? =some r∧firstBad r (same r (l.take k))≠0∧∀ k' r',k'<k→l[k']? =some r'→firstBad r' (same r' (l.take k'))=0:=by
  intro m
  induction m with
  |zero=>left;intro k r hk;omega
  |succ m ih=>
   rcases ih with h|h
   ·cases hm:l[m]? with
    |none=>
     left
     intro k r hk hr
     by_cases e:k=m
     ·subst e;rw [hm] at hr;cases hr
     ·exact h k r (by omega) hr
    |some r=>
     by_cases hz:firstBad r (same r (l.take m))=0
     ·left
      intro k r' hk hr
      by_cases e:k=m
      ·subst e;rw [hm] at hr;cases hr;exact hz
      ·exact h k r' (by omega) hr
     ·exact .inr ⟨m,r,hm,hz,fun k' r' hk' hr'=>h k' r' hk' hr'⟩
   ·exact .inr h
 rcases H l.length with h|h
 ·exact .inl (fun k r hr=>h k r (List.getElem?_eq_some_iff.1 hr).1 hr)
 ·exact .inr h
theorem check_take (l:List RuleV) (i:Nat) (_:i<l.length):check (l.take (i+1))=if 0≤(check l).1∧(check l).1≤i then check l else (-1,0):=by
 rcases check_cases l with h|⟨k,r,hr,hb,h⟩
 ·rw [check_none h,if_neg (fun h0=>absurd (show (0:Int)≤ -1 from h0.1) (by decide)),check_none];intro k r hr;rw [List.getElem?_take] at hr
  split at hr
  ·rw [List.take_take,Nat.min_eq_left (by omega)];exact h k r hr
  ·cases hr
 ·rw [check_some hr hb h];dsimp only
  by_cases hk:k≤i
  ·rw [if_pos ⟨by omega,by omega⟩];have:=check_some (l:=l.take (i+1)) (k:=k) (r:=r) (by rw [List.getElem?_take,if_pos (by omega)];exact hr) (by rw [List.take_take,Nat.min_eq_left (by omega)];exact hb) (fun k' r' hk' hr'=>by
    rw [List.getElem?_take,if_pos (by omega)] at hr';rw [List.take_take,Nat.min_eq_left (by omega)];exact h k' r' hk' hr')
   rw [this,List.take_take,Nat.min_eq_left (by omega)]
  ·rw [if_neg (by omega),check_none];intro k' r' hr';rw [List.getElem?_take] at hr'
   split at hr'
   ·rw [List.take_take,Nat.min_eq_left (by omega)];exact h k' r' (by omega) hr'
   ·cases hr'
end Chk
namespace Ck
abbrev Fault:=Int×Int
def less (a b:Fault):Fault:=if b.2≠0∧(a.2=0∨b.1<a.1) then b else a
def run (f:Fault) (l:List Fault):Fault:=l.foldl less f
theorem run_snoc (f:Fault) (l:List Fault) (x:Fault):run f (l++[x])=less (run f l) x:=by unfold run;rw [List.foldl_append];rfl
theorem run_app (f:Fault) (l m:List Fault):run f (l++m)=run (run f l) m:=by unfold run;rw [List.foldl_append]
theorem less_err {f x:Fault} (h:f.2≠0∨x.2≠0):(less f x).2≠0:=by
 unfold less
 split
 ·rename_i h1;exact h1.1
 ·rename_i h1;rcases h with h|h
  ·exact h
  ·intro e;exact h1 ⟨h,.inl e⟩
theorem run_err:∀ (L:List Fault) (f:Fault),(f.2≠0∨∃ p∈L,p.2≠0)→(run f L).2≠0
 | [],f,h=>by
   rcases h with h|⟨p,hp,_⟩
   ·exact h
   ·cases hp
 |x :: L,f,h=>by
  show (run (less f x) L).2≠0;refine run_err L _ ?_;rcases h with h|⟨p,hp,h⟩
  ·exact .inl (less_err (.inl h))
  ·rcases List.mem_cons.1 hp with rfl|hp
   ·exact .inl (less_err (.inr h))
   ·exact .inr ⟨p,hp,h⟩
def named (l:List RuleV) (s:ByteArray):Bool:=l.any fun r=>decide (r.name=s)
noncomputable def eraF (l:List RuleV) (done:List ByteArray) (name:ByteArray) (es:List EraV) (i:Nat) (e:EraV):Int:=
 if i=0∧(done.any fun y=>decide (y=name))=true then 11 else if e.kind=2∧named l e.rules=false then 12 else if (Unt.checkU l es).1=i then (Unt.checkU l es).2 else 0
noncomputable def eraFs (l:List RuleV) (done:List ByteArray) (name:ByteArray) (es:List EraV) (ns:List Int):List Fault:=es.zipIdx.map fun p=>(ns.getD p.2 0,eraF l done name es p.2 p.1)
noncomputable def zoneFs (l:List RuleV) (zs:List ZoneV) (ns:List (List Int)):List Fault:=zs.zipIdx.flatMap fun p=>eraFs l ((zs.take p.2).map ZoneV.name) p.1.name p.1.es (ns.getD p.2 [])
def ruleF (l:List RuleV) (i:Nat):Int:=if (Chk.check (l.take (i+1))).1=i then (Chk.check (l.take (i+1))).2 else 0
def ruleFs (l:List RuleV) (ns:List Int):List Fault:=(List.range l.length).map fun i=>(ns.getD i 0,ruleF l i)
def linkF (zs:List ByteArray) (ls:List LinkV) (i:Nat) (x:LinkV):Int:=if ((zs++(ls.take i).map LinkV.name).any fun y=>decide (y=x.name))=true then 11 else (Bk.find zs ls x.name).2
def linkFs (zs:List ByteArray) (ls:List LinkV) (ns:List Int):List Fault:=ls.zipIdx.map fun p=>(ns.getD p.2 0,linkF zs ls p.2 p.1)
end Ck
end
section
namespace Bk
theorem never {done l:List S} (h:∀ (k:Nat) x,l[k]? =some x→x∉done++l.take k):twice done l<0:=by
 have H:∀ k,k≤l.length→twice done (l.take k)<0:=by
  intro k
  induction k with
  |zero=>
   intro _;rw [List.take_zero];unfold twice tw;simp
  |succ k ih=>
   intro hk;have hx:=List.getElem?_eq_getElem (l:=l) (i:=k) (by omega);rw [twice_succ (by omega) hx,if_neg]
   ·exact ih (by omega)
   ·rintro ⟨_,h2⟩;rw [List.any_eq_true] at h2;obtain ⟨y,hy,e⟩:=h2;rw [decide_eq_true_eq] at e;subst e;exact h k _ hx hy
 have:=H l.length (Nat.le_refl _)
 rwa [List.take_of_length_le (Nat.le_refl _)] at this
end Bk
end
section
open Go.RowKit Go.ChangeShapes Go.WideShapes
def intC (n:Int):List Value:=[.int .i64 n]
structure RowN where
 v:Value
 ns:List Int
def RowN.cells (r:RowN):List Value:=[r.v]
structure RowN.Fit (w:World) (r:RowN):Prop where
 h:HoldsG 1 intC w r.v r.ns
 f:∀ n∈r.ns,I64 n
theorem RowN.Fit.later {w w':World} {r:RowN} (h:r.Fit w) (hb:Below w.heap.size w w'):r.Fit w':=⟨h.h.later hb,h.f⟩
structure WhV where
 rv:Value
 ev:Value
 lv:Value
 rs:List Int
 es:List RowN
 ls:List Int
def WhV.cells (x:WhV):List Value:=[x.rv,x.ev,x.lv]
structure HoldsW (w:World) (x:WhV):Prop where
 r:HoldsG 1 intC w x.rv x.rs
 rf:∀ n∈x.rs,I64 n
 e:HoldsG 1 RowN.cells w x.ev x.es
 ef:∀ y∈x.es,y.Fit w
 l:HoldsG 1 intC w x.lv x.ls
 lf:∀ n∈x.ls,I64 n
theorem HoldsW.later {w w':World} {x:WhV} (h:HoldsW w x) (hb:Below w.heap.size w w'):HoldsW w' x:=
 ⟨h.r.later hb,h.rf,h.e.later hb,fun y hy=>(h.ef y hy).later hb,h.l.later hb,h.lf⟩
instance:Inhabited RowN:=⟨⟨.slice none 0 0,[]⟩⟩
section
variable {H:Type} {enc:TypeId×Value→H} {w:World} {base:Nat} {spare:Nat→Bool} {held:Bool}
end
end
section
namespace Ck
theorem run_take {L:List Fault} {i:Nat} {x:Fault} (h:L[i]? =some x) (f:Fault):run f (L.take (i+1))=less (run f (L.take i)) x:=by
 rw [List.take_add_one,h];exact run_snoc f _ x
def lines (rs:List Int) (es:List (List Int)) (ls:List Int):List Int:=rs++ls++es.flatten
def zoneOk (p:ZoneV×List Int):Bool:=Zn.zoneB p.1.es&&decide (p.2.length=p.1.es.length)
def whereB (nr:Nat) (zs:List ZoneV) (nl:Nat) (rs:List Int) (es:List (List Int)) (ls:List Int):Bool:=
 decide (rs.length=nr)&&(decide (es.length=zs.length)&&(decide (ls.length=nl)&&((zs.zip es).all zoneOk&&(lines rs es ls).all fun n=>decide (1≤n))))
noncomputable def all (l:List RuleV) (zs:List ZoneV) (ls:List LinkV) (rs:List Int) (es:List (List Int)) (ns:List Int):List Fault:=
 zoneFs l zs es++(ruleFs l rs++linkFs (zs.map ZoneV.name) ls ns)
noncomputable def chk (l:List RuleV) (zs:List ZoneV) (ls:List LinkV) (rs:List Int) (es:List (List Int)) (ns:List Int):Fault:=
 if whereB l.length zs ls.length rs es ns=true then run (0,0) (all l zs ls rs es ns) else (0,4)
theorem where_parts {nr:Nat} {zs:List ZoneV} {nl:Nat} {rs:List Int} {es:List (List Int)} {ls:List Int} (h:whereB nr zs nl rs es ls=true):
 rs.length=nr∧es.length=zs.length∧ls.length=nl∧(∀ p∈zs.zip es,Zn.zoneB p.1.es=true∧p.2.length=p.1.es.length)∧∀ n∈lines rs es ls,1≤n:=by
 unfold whereB at h;simp only [Bool.and_eq_true,decide_eq_true_eq,List.all_eq_true] at h;obtain ⟨h1,h2,h3,h4,h5⟩:=h;refine ⟨h1,h2,h3,fun p hp=> ?_,h5⟩;have:=h4 p hp;unfold zoneOk at this
 simpa using this
theorem whereB_of {nr:Nat} {zs:List ZoneV} {nl:Nat} {rs:List Int} {es:List (List Int)} {ls:List Int} (h1:rs.length=nr) (h2:es.length=zs.length) (h3:ls.length=nl) (h4:(zs.zip es).all zoneOk=true) (h5:((lines rs es ls).all fun n=>decide (1≤n))=true):whereB nr zs nl rs es ls=true:=by
 unfold whereB;rw [decide_eq_true h1,decide_eq_true h2,decide_eq_true h3,h4,h5];rfl
theorem first_cases (f:Nat→Int):∀ c k:Nat,Unt.first f c k=(-1,0)∨∃ j:Nat,k≤j∧j<k+c∧Unt.first f c k=((j:Int),f j)∧f j≠0
 |0,k=>.inl rfl
 |c+1,k=>by
  unfold Unt.first
  by_cases h:f k=0
  ·rw [if_pos h];rcases first_cases f c (k+1) with h1|⟨j,h1,h2,h3,h4⟩
   ·exact .inl h1
   ·exact .inr ⟨j,by omega,by omega,h3,h4⟩
  ·rw [if_neg h];exact .inr ⟨k,Nat.le_refl _,by omega,rfl,h⟩
theorem checkU_cases {l:List RuleV} {es:List EraV} (h:Zn.zoneB es=true):Unt.checkU l es=(-1,0)∨∃ j:Nat,j<es.length∧(Unt.checkU l es).1=(j:Int)∧(Unt.checkU l es).2≠0:=by
 unfold Unt.checkU;rw [if_pos h];have hl:=Zn.endsL_len l es es.length;rw [List.take_of_length_le (Nat.le_refl _)] at hl;rcases first_cases (Unt.badAt l es (Zn.endsL l es)) (Zn.endsL l es).length 0 with h1|⟨j,h1,h2,h3,h4⟩
 ·exact .inl h1
 ·refine .inr ⟨j,by omega,?_,?_⟩
  ·rw [h3]
  ·rw [h3];exact h4
structure Fine (l:List RuleV) (zs:List ZoneV) (ls:List LinkV):Prop where
 rules:Chk.check l=(-1,0)
 zones:Bk.twice [] (zs.map ZoneV.name)<0
 links:Bk.twice (zs.map ZoneV.name) (ls.map LinkV.name)<0
 find:∀ x∈ls,(Bk.find (zs.map ZoneV.name) ls x.name).2=0
 eras:∀ z∈zs,Unt.checkU l z.es=(-1,0)
 named:∀ z∈zs,∀ e∈z.es,e.kind=2→named l e.rules=true
theorem zone_mem {l:List RuleV} {zs:List ZoneV} {es:List (List Int)} {k i:Nat} {z:ZoneV} {e:EraV} (hz:zs[k]? =some z) (he:z.es[i]? =some e):((es.getD k []).getD i 0,eraF l ((zs.take k).map ZoneV.name) z.name z.es i e)∈zoneFs l zs es:=by
 unfold zoneFs;rw [List.mem_flatMap];refine ⟨(z,k),List.mem_zipIdx_iff_getElem?.2 hz,?_⟩;unfold eraFs;rw [List.mem_map];exact ⟨(e,i),List.mem_zipIdx_iff_getElem?.2 he,rfl⟩
theorem rules_fine {l:List RuleV} (h:∀ i,i<l.length→ruleF l i=0):Chk.check l=(-1,0):=by
 rcases Chk.check_cases l with h1|⟨k,r,hr,hb,h1⟩
 ·exact Chk.check_none h1
 ·exfalso;have hk:k<l.length:=(List.getElem?_eq_some_iff.1 hr).1;have h2:=h k hk;unfold ruleF at h2;have e2:Chk.check (l.take (k+1))=((k:Int),Chk.firstBad r (Chk.same r (l.take k))):=by rw [Chk.check_take l k hk,Chk.check_some hr hb h1,if_pos ⟨by show (0:Int)≤k;omega,Int.le_refl _⟩]
  rw [e2,if_pos rfl] at h2;exact hb h2
theorem any_name {l:List ByteArray} {s:ByteArray}:(l.any fun y=>decide (y=s))=true↔s∈l:=by
 rw [List.any_eq_true]
 constructor
 ·rintro ⟨y,hy,e⟩;rw [decide_eq_true_eq] at e;rw [← e];exact hy
 ·intro h;exact ⟨s,h,decide_eq_true rfl⟩
theorem fine {l:List RuleV} {zs:List ZoneV} {ls:List LinkV} {rs:List Int} {es:List (List Int)} {ns:List Int} (h:(chk l zs ls rs es ns).2=0):Fine l zs ls:=by
 unfold chk at h
 by_cases hw:whereB l.length zs ls.length rs es ns=true
 case neg=>
  rw [if_neg hw] at h;exact absurd h (by decide)
 rw [if_pos hw] at h;obtain ⟨h1,h2,h3,h4,_⟩:=where_parts hw;have hall:∀ p∈all l zs ls rs es ns,p.2=0:=by
  intro p hp;refine Classical.byContradiction (fun hn=>run_err _ (0,0) (.inr ⟨p,hp,hn⟩) h)
 unfold all at hall;have hzb:∀ (k:Nat) (z:ZoneV),zs[k]? =some z→Zn.zoneB z.es=true:=by
  intro k z hz;have hk:k<es.length:=by rw [h2];exact (List.getElem?_eq_some_iff.1 hz).1
  exact (h4 (z,es[k]) (List.mem_of_getElem? (List.getElem?_zip_eq_some.2 ⟨hz,List.getElem?_eq_getElem hk⟩))).1
 have hera:∀ (k:Nat) (z:ZoneV),zs[k]? =some z→∀ (i:Nat) (e:EraV),z.es[i]? =some e→eraF l ((zs.take k).map ZoneV.name) z.name z.es i e=0:=fun k z hz i e he=>hall _ (List.mem_append.2 (.inl (zone_mem hz he)));have hlink:∀ (i:Nat) (x:LinkV),ls[i]? =some x→linkF (zs.map ZoneV.name) ls i x=0:=by
  intro i x hx;refine hall (ns.getD i 0,linkF (zs.map ZoneV.name) ls i x) (List.mem_append.2 (.inr (List.mem_append.2 (.inr ?_))));unfold linkFs;rw [List.mem_map];exact ⟨(x,i),List.mem_zipIdx_iff_getElem?.2 hx,rfl⟩
 have hlk:∀ (i:Nat) (x:LinkV),ls[i]? =some x→x.name∉zs.map ZoneV.name++(ls.take i).map LinkV.name∧(Bk.find (zs.map ZoneV.name) ls x.name).2=0:=by
  intro i x hx;have:=hlink i x hx;unfold linkF at this
  split at this
  ·exact absurd this (by decide)
  ·rename_i hn;exact ⟨fun hm=>hn (any_name.2 hm),this⟩
 refine ⟨rules_fine fun i hi=> ?_,Bk.never ?_,Bk.never ?_,?_,?_,?_⟩
 ·refine hall (rs.getD i 0,ruleF l i) (List.mem_append.2 (.inr (List.mem_append.2 (.inl ?_))));unfold ruleFs;rw [List.mem_map];exact ⟨i,List.mem_range.2 hi,rfl⟩
 ·intro k x hx;rw [List.getElem?_map] at hx;obtain ⟨z,hz,rfl⟩:=Option.map_eq_some_iff.1 hx;have hpos:=(Zn.zone_iff.1 (hzb k z hz)).1;have h0:=hera k z hz 0 _ (List.getElem?_eq_getElem hpos);unfold eraF at h0
  split at h0
  ·exact absurd h0 (by decide)
  ·rename_i hn;rw [List.nil_append, ←List.map_take];exact fun hm=>hn ⟨rfl,any_name.2 hm⟩
 ·intro k x hx;rw [List.getElem?_map] at hx;obtain ⟨y,hy,rfl⟩:=Option.map_eq_some_iff.1 hx;rw [← List.map_take];exact (hlk k y hy).1
 ·intro x hx;obtain ⟨i,hi⟩:=List.getElem?_of_mem hx;exact (hlk i x hi).2
 ·intro z hz;obtain ⟨k,hk⟩:=List.getElem?_of_mem hz;rcases checkU_cases (l:=l) (hzb k z hk) with h6|⟨j,hj,h6,h7⟩
  ·exact h6
  ·exfalso;have h0:=hera k z hk j _ (List.getElem?_eq_getElem hj);unfold eraF at h0
   split at h0
   ·exact absurd h0 (by decide)
   ·split at h0
    ·exact absurd h0 (by decide)
    ·exact h7 h0
 ·intro z hz e he hk2;obtain ⟨k,hk⟩:=List.getElem?_of_mem hz;obtain ⟨i,hi⟩:=List.getElem?_of_mem he;have h0:=hera k z hk i e hi;unfold eraF at h0
  split at h0
  ·exact absurd h0 (by decide)
  ·split at h0
   ·exact absurd h0 (by decide)
   ·rename_i hn;cases hq:named l e.rules
    ·exact absurd ⟨hk2,hq⟩ hn
    ·rfl
def up (m n:Nat):List Int:=(List.range n).map fun i=>((m+i+1:Nat):Int)
theorem up_len (m n:Nat):(up m n).length=n:=by unfold up;simp
theorem up_zero (m:Nat):up m 0=[]:=rfl
theorem up_succ (m n:Nat):up m (n+1)=up m n++[((m+n+1:Nat):Int)]:=by
 unfold up;rw [List.range_succ,List.map_append];rfl
theorem up_mem {m n:Nat} {x:Int} (h:x∈up m n):(m:Int)<x∧x≤((m+n:Nat):Int):=by
 unfold up at h;rw [List.mem_map] at h;obtain ⟨i,hi,rfl⟩:=h;have:=List.mem_range.1 hi;omega
def sumE:List ZoneV→Nat
 | []=>0
 |z :: zs=>z.es.length+sumE zs
def upE:Nat→List ZoneV→List (List Int)
 |_,[]=>[]
 |m,z :: zs=>up m z.es.length :: upE (m+z.es.length) zs
theorem sumE_snoc:∀ (zs:List ZoneV) (z:ZoneV),sumE (zs++[z])=sumE zs+z.es.length
 | [],z=>by simp [sumE]
 |y :: zs,z=>by
  show y.es.length+sumE (zs++[z])=y.es.length+sumE zs+z.es.length;rw [sumE_snoc zs z];omega
theorem upE_snoc:∀ (m:Nat) (zs:List ZoneV) (z:ZoneV),upE m (zs++[z])=upE m zs++[up (m+sumE zs) z.es.length]
 |m,[],z=>rfl
 |m,y :: zs,z=>by
  show up m y.es.length :: upE (m+y.es.length) (zs++[z])=up m y.es.length :: (upE (m+y.es.length) zs++[up (m+(y.es.length+sumE zs)) z.es.length]);rw [upE_snoc (m+y.es.length) zs z,Nat.add_assoc]
theorem upE_len:∀ (m:Nat) (zs:List ZoneV),(upE m zs).length=zs.length
 |_,[]=>rfl
 |m,z :: zs=>by
  show (upE (m+z.es.length) zs).length+1=zs.length+1;rw [upE_len]
theorem upE_mem:∀ {m:Nat} {zs:List ZoneV} {x:Int},x∈(upE m zs).flatten→(m:Int)<x∧x≤((m+sumE zs:Nat):Int)
 |m,[],x,h=>by simp [upE] at h
 |m,z :: zs,x,h=>by
  have h':x∈up m z.es.length++(upE (m+z.es.length) zs).flatten:=h;show (m:Int)<x∧x≤((m+(z.es.length+sumE zs):Nat):Int);rcases List.mem_append.1 h' with h1|h1
  ·have:=up_mem h1;omega
  ·have:=upE_mem h1;omega
theorem upE_zip:∀ {m:Nat} {zs:List ZoneV} {p:ZoneV×List Int},p∈zs.zip (upE m zs)→p.2.length=p.1.es.length
 |m,[],p,h=>by simp at h
 |m,z :: zs,p,h=>by
  have h':p∈(z,up m z.es.length) :: zs.zip (upE (m+z.es.length) zs):=h;rcases List.mem_cons.1 h' with rfl|h1
  ·exact up_len _ _
  ·exact upE_zip h1
noncomputable def chkP (l:List RuleV) (zs:List ZoneV) (ls:List LinkV):Fault:=chk l zs ls (up 0 l.length) (upE l.length zs) (up (l.length+sumE zs) ls.length)
noncomputable def zoneTo (l:List RuleV) (zs:List ZoneV) (ns:List (List Int)) (k:Nat):List Fault:=(zs.zipIdx.take k).flatMap fun p=>eraFs l ((zs.take p.2).map ZoneV.name) p.1.name p.1.es (ns.getD p.2 [])
theorem zoneTo_zero (l:List RuleV) (zs:List ZoneV) (ns:List (List Int)):zoneTo l zs ns 0=[]:=rfl
theorem zoneTo_succ {l:List RuleV} {zs:List ZoneV} {ns:List (List Int)} {k:Nat} {z:ZoneV} (hz:zs[k]? =some z):zoneTo l zs ns (k+1)=zoneTo l zs ns k++eraFs l ((zs.take k).map ZoneV.name) z.name z.es (ns.getD k []):=by
 unfold zoneTo;have h:zs.zipIdx[k]? =some (z,k):=by rw [List.getElem?_zipIdx,hz];simp
 rw [List.take_add_one,h,List.flatMap_append];simp
theorem zoneTo_all {l:List RuleV} {zs:List ZoneV} {ns:List (List Int)}:zoneTo l zs ns zs.length=zoneFs l zs ns:=by
 unfold zoneTo zoneFs;rw [List.take_of_length_le (by simp)]
theorem eraFs_at {l:List RuleV} {done:List ByteArray} {name:ByteArray} {es:List EraV} {ns:List Int} {i:Nat} {e:EraV} (he:es[i]? =some e):(eraFs l done name es ns)[i]? =some (ns.getD i 0,eraF l done name es i e):=by
 unfold eraFs;rw [List.getElem?_map,List.getElem?_zipIdx,he];simp
theorem eraFs_len {l:List RuleV} {done:List ByteArray} {name:ByteArray} {es:List EraV} {ns:List Int}:(eraFs l done name es ns).length=es.length:=by unfold eraFs;simp
theorem linkFs_at {zs:List ByteArray} {ls:List LinkV} {ns:List Int} {i:Nat} {x:LinkV} (hx:ls[i]? =some x):(linkFs zs ls ns)[i]? =some (ns.getD i 0,linkF zs ls i x):=by
 unfold linkFs;rw [List.getElem?_map,List.getElem?_zipIdx,hx];simp
theorem linkFs_len {zs:List ByteArray} {ls:List LinkV} {ns:List Int}:(linkFs zs ls ns).length=ls.length:=by unfold linkFs;simp
theorem ruleFs_at {l:List RuleV} {rs:List Int} {i:Nat} (hi:i<l.length):(ruleFs l rs)[i]? =some (rs.getD i 0,ruleF l i):=by
 unfold ruleFs;rw [List.getElem?_map,List.getElem?_range hi];rfl
theorem ruleFs_len {l:List RuleV} {rs:List Int}:(ruleFs l rs).length=l.length:=by unfold ruleFs;simp
end Ck
end
section
open Go.RowKit NB
namespace Zn
def lightE (e:EraV):Bool:=decide (e.rules.size≤200)&&decide (e.format.size≤200)
def lightZ (name:ByteArray) (es:List EraV):Bool:=decide (es.length≤12)&&decide (name.size≤200)&&es.all lightE
set_option maxRecDepth 100000 in
set_option maxHeartbeats 3200000 in
theorem LightZ {w:World} {v:Value} {es:List EraV} (h:HoldsE w v es) (name:ByteArray) (hnm:name.size≤9223372036854775807):Calls prog 91 #[.agg #[.string name,v]] w fun e w'=>e=.returned (.bool (lightZ name es))∧Below w.heap.size w w':=by
 have hat:=fun (k:Nat) (e:EraV) (he:es[k]? =some e)=>h.at he;have hfit:=h.fit;have hln:=h.len;obtain ⟨p,cap,rfl⟩:=h.form;unfold lightZ;have hll:∀ k:Nat,k<es.length→∃ e,es[k]? =some e:=fun k hk=>⟨es[k],by simp⟩;have hsc:∀ (k:Nat) (e:EraV),es[k]? =some e→(es.take k).all lightE=true→lightE e=true→(es.take (k+1)).all lightE=true:=by
  intro k e he h1 h2;rw [List.take_add_one,he,List.all_append,h1];simp [h2]
 have hno:∀ (k:Nat) (e:EraV),es[k]? =some e→lightE e=false→es.all lightE=false:=by
  intro k e he h1;rw [Bool.eq_false_iff];intro h2;rw [List.all_eq_true] at h2;rw [h2 e (List.mem_of_getElem? he)] at h1;cases h1
 have hfin:∀ k,k=es.length→(es.take k).all lightE=es.all lightE:=fun k hk=>by rw [hk,List.take_length]
 obtain ⟨al,hal⟩:∃ x,x=es.all lightE:=⟨_,rfl⟩;rw [← hal];rw [← hal] at hno hfin;generalize es.length=n at *;have Hat:=kj hat;have Hft:=kj hfit;have HLL:=kj hll;have Hsc:=kj hsc;have Hno:=kj hno;have Hfin:=kj hfin;clear hat hfit hll hsc hno hfin h hal
 by_cases h12:n≤12
 case neg=>
  rw [show decide (n≤12)=false by simpa using h12];go_enter func91,ntmps91;go_wp2;go_ret;exact ⟨rfl,bcq⟩
 rw [show decide (n≤12)=true by simpa using h12]
 by_cases h200:name.size≤200
 case neg=>
  rw [show decide (name.size≤200)=false by simpa using h200];go_enter func91,ntmps91;go_wp2;go_ret;exact ⟨rfl,bcq⟩
 rw [show decide (name.size≤200)=true by simpa using h200,Bool.true_and,Bool.true_and];go_enter func91,ntmps91;go_wp2
 go_loopw [18] (fun z wr=>∃ k:Nat,z=.int .i64 k∧k≤n∧(es.take k).all lightE=true∧Below w.heap.size w wr) (fun z _=>n-(intOf z).toNat)
 case atStart=>exact ⟨0,rfl,Nat.zero_le _,rfl,bcq⟩
 case round=>
  obtain ⟨k,rfl,hk,hto,hbel⟩:=hrel;have Hto:=kj hto;have Hbel:=kj hbel;clear hto hbel
  by_cases hlt:k<n
  ·obtain ⟨e,he⟩:=HLL.out k hlt;obtain ⟨b,off,cap',hq,hb,hcl⟩:=Hat.out k e he;simp only [Value.slice.injEq] at hq;obtain ⟨rfl, -, -⟩:=hq;have hsc:=Hsc.out k e he Hto.out;have hno:=Hno.out k e he;have ef:=Hft.out e (List.mem_of_getElem? he);have er:=ef.r;have ef2:=ef.f;unfold lightE at hsc hno;have hd:∀ (j:Nat) (u:Value),e.cells[j]? =some u→wr.cell? ⟨b,off+k*13+j,none⟩=some u:=fun j u hu=>(Hbel.out.cell (p:=⟨b,off+k*13+j,none⟩) hb).trans (hcl j u hu);unfold EraV.cells at hd;have d0:=hd 0 _ rfl;have d1:=hd 1 _ rfl;have d2:=hd 2 _ rfl;have d3:=hd 3 _ rfl;have d4:=hd 4 _ rfl;have d5:=hd 5 _ rfl;have d6:=hd 6 _ rfl;have d7:=hd 7 _ rfl;have d8:=hd 8 _ rfl;have d9:=hd 9 _ rfl;have d10:=hd 10 _ rfl;have d11:=hd 11 _ rfl;have d12:=hd 12 _ rfl;simp only [Nat.add_zero] at d0;clear hd hcl he hb ef
   by_cases hg:e.rules.size≤200∧e.format.size≤200
   ·have HS:=kj (hsc (by simp [hg.1,hg.2]));obtain ⟨g1,g2⟩:=hg;clear hsc hno;go_wp2;have hbel:=Hbel.out;go_roundw
    case rel=>exact ⟨k+1,by go_num,hlt,HS.out,bcq⟩
    case measure=>simp [intOf];omega
   ·have HZ:=kj (hno (by
     rw [Bool.and_eq_false_iff];simp only [decide_eq_false_iff_not];omega))
    clear hsc hno;rcases (by omega:200<e.rules.size∨(e.rules.size≤200∧200<e.format.size)) with g1|⟨g1,g2⟩
    all_goals
     clear hg;go_wp2;have hbel:=Hbel.out;go_ret;exact ⟨congrArg (fun v=>Ending.returned (Value.bool v)) HZ.out.symm,bcq⟩
  ·have hkn:k=n:=by omega
   have HR:=kj ((Hfin.out k hkn).symm.trans Hto.out);go_wp2;go_ret;exact ⟨congrArg (fun v=>Ending.returned (Value.bool v)) HR.out.symm,Hbel.out⟩
end Zn
end
section
open Go.RowKit NB
namespace Eqs
def eqK (x y:LinkV):Bool:=decide (x=y)
def eqR (x y:RuleV):Bool:=decide (x=y)
def eqE (x y:EraV):Bool:=decide (x=y)
def zd (z:ZoneV):ByteArray×List EraV:=(z.name,z.es)
def td (t:TabV):List RuleV×List LinkV×List (ByteArray×List EraV):=(t.rs,t.ls,t.zs.map zd)
end Eqs
end
end Go.Proofs.YtgmfojgnjdpofaaGreatDoor
