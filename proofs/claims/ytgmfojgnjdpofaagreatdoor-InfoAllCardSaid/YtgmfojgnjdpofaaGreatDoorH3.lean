import Derived.Test.YtgmfojgnjdpofaaGreatDoorH2
import Derived.ChangeArms
import Derived.OpenShut
import Derived.Test.YtgmfojgnjdpofaaGreatDoorH1
import Derived.Deep.Slices
import Derived.SizedLaws
namespace Go.Proofs.YtgmfojgnjdpofaaGreatDoor
open Go.Proofs.Tryz
section
open Go.RowKit NB
def Lies (w:World) (b off sz:Nat) (cells:List (List Value)):Prop:=∀ (i j:Nat) (cs:List Value) (v:Value),cells[i]? =some cs→cs[j]? =some v→w.cell? ⟨b,off+i*sz+j,none⟩=some v
namespace Lgt
def lightR (r:RuleV):Bool:=decide (r.name.size≤200)&&decide (r.letter.size≤200)
def light (l:List RuleV):Bool:=decide (l.length≤12)&&l.all lightR
theorem all_take_succ {α:Type} {p:α→Bool} {l:List α} {k:Nat} {r:α} (hr:l[k]? =some r) (h:(l.take k).all p=true) (hp:p r=true):(l.take (k+1)).all p=true:=by
 rw [List.take_add_one,hr];simp only [Option.toList_some,List.all_append,List.all_cons,List.all_nil,Bool.and_true,Bool.and_eq_true];exact ⟨h,hp⟩
theorem all_false {α:Type} {p:α→Bool} {l:List α} {k:Nat} {r:α} (hr:l[k]? =some r) (hp:p r=false):l.all p=false:=by
 rw [Bool.eq_false_iff];intro h;have:=List.all_eq_true.mp h r (List.mem_of_getElem? hr);rw [hp] at this;cases this
def Post (b:Bool) (w:World) (e:Ending) (w':World):Prop:=e=.returned (.bool b)∧Below w.heap.size w w'
set_option maxHeartbeats 800000 in
theorem Light (b off cap:Nat) (l:List RuleV) (w:World) (hc:Lies w b off 11 (l.map RuleV.cells)) (hb:b<w.heap.size) (hcap:l.length≤9223372036854775807) (hs:∀ r∈l,r.Fit):Calls prog 90 #[.slice (some ⟨b,off,none⟩) l.length cap] w (Post (light l) w):=by
 have Hc:=kj hc;clear hc;have Hs:=kj hs;clear hs
 by_cases hn:l.length≤12
 ·have hL:light l=l.all lightR:=by unfold light;rw [decide_eq_true hn];rfl
  rw [hL];clear hL;generalize hN:l.length=n at hn hcap;have HN:=kj hN;clear hN;go_enter func90,ntmps90;go_wp2
  go_loopw [10] (fun i wr=>∃ k:Nat,k≤n∧i=.int .i64 k∧((l.take k).all lightR)=true∧Below w.heap.size w wr) (fun i _=>n-(intOf i).toNat)
  case atStart=>exact ⟨0,Nat.zero_le _,rfl,rfl,Below.refl _ _⟩
  case round=>
   obtain ⟨k,hk,rfl,hall,hbel⟩:=hrel;have Hall:=kj hall;clear hall
   by_cases hlt:k<n
   ·have hbs:=hbel.size;obtain ⟨r,hr⟩:∃ r,l[k]? =some r:=⟨l[k]'(by rw [HN.out];exact hlt),by simp⟩;have Hbel:=kj hbel;clear hbel;have c (j:Nat) (v:Value) (hv:r.cells[j]? =some v):wr.cell? ⟨b,off+k*11+j,none⟩=some v:=by
     rw [Hbel.out.cell (p:=⟨b,off+k*11+j,none⟩) hb];exact Hc.out k j _ v (by rw [List.getElem?_map,hr];rfl) hv
    have c0:=c 0 _ rfl;have c1:=c 1 _ rfl;have c2:=c 2 _ rfl;have c3:=c 3 _ rfl;have c4:=c 4 _ rfl;have c5:=c 5 _ rfl;have c6:=c 6 _ rfl;have c7:=c 7 _ rfl;have c8:=c 8 _ rfl;have c9:=c 9 _ rfl;have c10:=c 10 _ rfl;simp only [Nat.add_zero] at c0;clear c;have hs1:=(Hs.out r (List.mem_of_getElem? hr)).n;have hs2:=(Hs.out r (List.mem_of_getElem? hr)).l;have Hr:=kj hr;clear hr;go_wp2
    all_goals first
     |(
      refine ⟨⟨k+1,hlt,rfl,all_take_succ Hr.out Hall.out ?_,Hbel.out.alloc hbs _⟩,(by simp [intOf];omega)⟩;unfold lightR;rw [Bool.and_eq_true,decide_eq_true_eq,decide_eq_true_eq];omega)
     |(
      go_ret;refine ⟨ret_bool (all_false Hr.out ?_).symm,Hbel.out.alloc hbs _⟩;unfold lightR;rw [Bool.and_eq_false_iff,decide_eq_false_iff_not,decide_eq_false_iff_not];omega)
   ·go_wp2;go_ret;refine ⟨ret_bool ?_,hbel⟩;have:=Hall.out;rw [List.take_of_length_le (by rw [HN.out];omega)] at this;exact this.symm
 ·have hL:light l=false:=by unfold light;rw [decide_eq_false hn];rfl
  rw [hL];clear hL;generalize l.length=n at hn hcap;go_enter func90,ntmps90;go_wp2;go_ret;exact ⟨rfl,Below.refl _ _⟩
end Lgt
end
section
open Go.RowKit Go.ChangeShapes Go.WideShapes
section
variable {H:Type} {enc:TypeId×Value→H} {w:World} {base:Nat} {spare:Nat→Bool} {held:Bool}
theorem open_i {fuel:Nat} {k:IntKind} {t:TypeId} {c:Value} {o:Option (DataW H×List MemPlace)} (ht:prog.underlying t=some (.int k)) (h:DataW.trod enc prog w base spare held fuel t [c]=o) (ho:∃ y,o=some y):∃ n,c=.int k n∧(Lit.int k n).wf=true:=by
 obtain ⟨y,rfl⟩:=ho;obtain ⟨n,h1,_,h2⟩:=DataW.trod_int ht h;simp only [List.cons.injEq,and_true] at h1;exact ⟨n,h1,h2⟩
theorem open_s {fuel:Nat} {t:TypeId} {c:Value} {o:Option (DataW H×List MemPlace)} (ht:prog.underlying t=some .string) (h:DataW.trod enc prog w base spare held fuel t [c]=o) (ho:∃ y,o=some y):∃ s:ByteArray,c=.string s∧s.size≤maxLen:=by
 obtain ⟨y,rfl⟩:=ho;obtain ⟨n,h1,_,h2⟩:=DataW.trod_string ht h;simp only [List.cons.injEq,and_true] at h1;exact ⟨n,h1,h2⟩
theorem c27:prog.cellsOf 57=11:=by kernel_rfl
theorem c23:prog.cellsOf 47=3:=by kernel_rfl
theorem c25:prog.cellsOf 49=2:=by kernel_rfl
theorem c9:prog.cellsOf 9=1:=by kernel_rfl
theorem c3:prog.cellsOf 3=1:=by kernel_rfl
theorem c2:prog.cellsOf 2=1:=by kernel_rfl
theorem at_some {α:Type} {l:List α} {n i:Nat} (h:l.length=n) (hi:i<n):∃ y,l[i]? =some y:=⟨l[i]'(by omega),List.getElem?_eq_getElem (by omega)⟩
set_option maxRecDepth 100000 in
theorem rule_cells {fuel:Nat} {cs:List Value} {x:DataW H×List MemPlace} (h:DataW.trod enc prog w base spare held fuel 57 cs=some x):∃ r:RuleV,cs=r.cells∧r.Fit:=by
 obtain ⟨xs,n,_,_,hlen,hxl,hg⟩:=DataW.trod_struct underlying57 h
 match cs,hlen.trans c27 with
 | [v0,v1,v2,v3,v4,v5,v6,v7,v8,v9,v10],_=>
   have hxl8:xs.length=8:=hxl;have g0:DataW.trod enc prog w base spare held n 9 (([v0,v1,v2,v3,v4,v5,v6,v7,v8,v9,v10].drop 0).take (prog.cellsOf 9))=xs[0]? :=hg 0 _ rfl;rw [c9] at g0;replace g0:DataW.trod enc prog w base spare held n 9 [v0]=xs[0]? :=g0;have g1:DataW.trod enc prog w base spare held n 3 (([v0,v1,v2,v3,v4,v5,v6,v7,v8,v9,v10].drop 1).take (prog.cellsOf 3))=xs[1]? :=hg 1 _ rfl;rw [c3] at g1;replace g1:DataW.trod enc prog w base spare held n 3 [v1]=xs[1]? :=g1;have g2:DataW.trod enc prog w base spare held n 3 (([v0,v1,v2,v3,v4,v5,v6,v7,v8,v9,v10].drop 2).take (prog.cellsOf 3))=xs[2]? :=hg 2 _ rfl;rw [c3] at g2;replace g2:DataW.trod enc prog w base spare held n 3 [v2]=xs[2]? :=g2;have g3:DataW.trod enc prog w base spare held n 3 (([v0,v1,v2,v3,v4,v5,v6,v7,v8,v9,v10].drop 3).take (prog.cellsOf 3))=xs[3]? :=hg 3 _ rfl;rw [c3] at g3;replace g3:DataW.trod enc prog w base spare held n 3 [v3]=xs[3]? :=g3;have g4:DataW.trod enc prog w base spare held n 47 (([v0,v1,v2,v3,v4,v5,v6,v7,v8,v9,v10].drop 4).take (prog.cellsOf 47))=xs[4]? :=hg 4 _ rfl;rw [c23] at g4;replace g4:DataW.trod enc prog w base spare held n 47 [v4,v5,v6]=xs[4]? :=g4;have g5:DataW.trod enc prog w base spare held n 49 (([v0,v1,v2,v3,v4,v5,v6,v7,v8,v9,v10].drop 7).take (prog.cellsOf 49))=xs[5]? :=hg 5 _ rfl;rw [c25] at g5;replace g5:DataW.trod enc prog w base spare held n 49 [v7,v8]=xs[5]? :=g5;have g6:DataW.trod enc prog w base spare held n 2 (([v0,v1,v2,v3,v4,v5,v6,v7,v8,v9,v10].drop 9).take (prog.cellsOf 2))=xs[6]? :=hg 6 _ rfl;rw [c2] at g6;replace g6:DataW.trod enc prog w base spare held n 2 [v9]=xs[6]? :=g6;have g7:DataW.trod enc prog w base spare held n 9 (([v0,v1,v2,v3,v4,v5,v6,v7,v8,v9,v10].drop 10).take (prog.cellsOf 9))=xs[7]? :=hg 7 _ rfl;rw [c9] at g7;replace g7:DataW.trod enc prog w base spare held n 9 [v10]=xs[7]? :=g7;obtain ⟨s0,rfl,z0⟩:=open_s underlying9 g0 (at_some hxl8 (by decide));obtain ⟨n1,rfl,z1⟩:=open_i underlying3 g1 (at_some hxl8 (by decide));obtain ⟨n2,rfl,z2⟩:=open_i underlying3 g2 (at_some hxl8 (by decide));obtain ⟨n3,rfl,z3⟩:=open_i underlying3 g3 (at_some hxl8 (by decide));obtain ⟨n9,rfl,z9⟩:=open_i underlying2 g6 (at_some hxl8 (by decide));obtain ⟨s10,rfl,z10⟩:=open_s underlying9 g7 (at_some hxl8 (by decide));obtain ⟨y4,hy4⟩:=at_some (i:=4) hxl8 (by decide);obtain ⟨y5,hy5⟩:=at_some (i:=5) hxl8 (by decide);rw [hy4] at g4;rw [hy5] at g5;obtain ⟨xs4,n4',_,_,_,hl4,hg4⟩:=DataW.trod_struct underlying47 g4;obtain ⟨xs5,n5',_,_,_,hl5,hg5⟩:=DataW.trod_struct underlying49 g5;have hl43:xs4.length=3:=hl4;have hl52:xs5.length=2:=hl5;have k0:DataW.trod enc prog w base spare held n4' 3 (([v4,v5,v6].drop 0).take (prog.cellsOf 3))=xs4[0]? :=hg4 0 _ rfl;rw [c3] at k0;replace k0:DataW.trod enc prog w base spare held n4' 3 [v4]=xs4[0]? :=k0;have k1:DataW.trod enc prog w base spare held n4' 3 (([v4,v5,v6].drop 1).take (prog.cellsOf 3))=xs4[1]? :=hg4 1 _ rfl;rw [c3] at k1;replace k1:DataW.trod enc prog w base spare held n4' 3 [v5]=xs4[1]? :=k1;have k2:DataW.trod enc prog w base spare held n4' 3 (([v4,v5,v6].drop 2).take (prog.cellsOf 3))=xs4[2]? :=hg4 2 _ rfl;rw [c3] at k2;replace k2:DataW.trod enc prog w base spare held n4' 3 [v6]=xs4[2]? :=k2;have k3:DataW.trod enc prog w base spare held n5' 2 (([v7,v8].drop 0).take (prog.cellsOf 2))=xs5[0]? :=hg5 0 _ rfl;rw [c2] at k3;replace k3:DataW.trod enc prog w base spare held n5' 2 [v7]=xs5[0]? :=k3;have k4:DataW.trod enc prog w base spare held n5' 3 (([v7,v8].drop 1).take (prog.cellsOf 3))=xs5[1]? :=hg5 1 _ rfl;rw [c3] at k4;replace k4:DataW.trod enc prog w base spare held n5' 3 [v8]=xs5[1]? :=k4;obtain ⟨n4,rfl,z4⟩:=open_i underlying3 k0 (at_some hl43 (by decide));obtain ⟨n5,rfl,z5⟩:=open_i underlying3 k1 (at_some hl43 (by decide));obtain ⟨n6,rfl,z6⟩:=open_i underlying3 k2 (at_some hl43 (by decide));obtain ⟨n7,rfl,z7⟩:=open_i underlying2 k3 (at_some hl52 (by decide));obtain ⟨n8,rfl,z8⟩:=open_i underlying3 k4 (at_some hl52 (by decide));have wf:∀ n:Int,(Lit.int .i64 n).wf=true→I64 n:=by
    intro n hn;have h1:(decide (IntKind.i64.min≤n)&&decide (n≤IntKind.i64.max))=true:=hn;rw [show IntKind.i64.min= -9223372036854775808 from rfl,show IntKind.i64.max=9223372036854775807 from rfl] at h1;simp only [Bool.and_eq_true,decide_eq_true_eq] at h1;exact h1
   exact ⟨⟨s0,n1,n2,n3,n4,n5,n6,n7,n8,n9,s10⟩,rfl,⟨z0,z10,wf _ z1,wf _ z2,wf _ z7,wf _ z9⟩⟩
end
end
section
open Go.RowKit NB
structure Holds (w:World) (v:Value) (l:List RuleV):Prop where
 lies:(∃ p cap,v=.slice p 0 cap∧l=[])∨(∃ b off cap,v=.slice (some ⟨b,off,none⟩) l.length cap∧b<w.heap.size∧Lies w b off 11 (l.map RuleV.cells))
 fit:∀ r∈l,r.Fit
 len:l.length≤9223372036854775807
theorem Holds.later {w w':World} {v:Value} {l:List RuleV} (h:Holds w v l) (hb:Below w.heap.size w w'):Holds w' v l:=by
 refine ⟨?_,h.fit,h.len⟩;rcases h.lies with h1|⟨b,off,cap,h1,h2,h3⟩
 ·exact .inl h1
 ·refine .inr ⟨b,off,cap,h1,Nat.lt_of_lt_of_le h2 hb.size,fun i j cs v hi hj=> ?_⟩;rw [hb.cell (p:=⟨b,off+i*11+j,none⟩) h2];exact h3 i j cs v hi hj
theorem Holds.form {w:World} {v:Value} {l:List RuleV} (h:Holds w v l):∃ p cap,v=.slice p l.length cap:=by
 rcases h.lies with ⟨p,cap,h1,h2⟩|⟨b,off,cap,h1,_,_⟩
 ·exact ⟨p,cap,by rw [h1,h2];rfl⟩
 ·exact ⟨_,cap,h1⟩
namespace Lgt
theorem LightE (p:Option Addr) (cap:Nat) (w:World):Calls prog 90 #[.slice p 0 cap] w (Post true w):=by
 go_enter func90,ntmps90;go_wp2
 go_loopw [10] (fun i wr=>i=.int .i64 0∧Below w.heap.size w wr) (fun i _=>0)
 case atStart=>exact ⟨rfl,Below.refl _ _⟩
 case round=>
  obtain ⟨rfl,hbel⟩:=hrel;go_wp2;go_ret;exact ⟨rfl,hbel⟩
theorem LightH {w:World} {v:Value} {l:List RuleV} (h:Holds w v l):Calls prog 90 #[v] w fun e w'=>e=.returned (.bool (light l))∧Below w.heap.size w w':=by
 rcases h.lies with ⟨p,cap,rfl,rfl⟩|⟨b,off,cap,rfl,h2,h3⟩
 ·exact LightE p cap w
 ·exact Light b off cap l w h3 h2 h.len h.fit
end Lgt
section
variable {H:Type} {enc:TypeId×Value→H} {w:World} {base:Nat} {spare:Nat→Bool} {held:Bool}
theorem addr_add (b off n:Nat):(⟨b,off,none⟩:Addr).add n=⟨b,off+n,none⟩:=by unfold Addr.add;split<;>simp_all
theorem info_cells {a:Addr} {n:Nat} {cs:List Value} (h:w.cells? base a n=some cs) (hn:0<n):a.spot=none∧a.block<w.heap.size:=by
 obtain ⟨_,hlen,hcell⟩:=World.cells?_some h;obtain ⟨v,hv⟩:∃ v,cs[0]? =some v:=⟨cs[0]'(by omega),List.getElem?_eq_getElem (by omega)⟩;have h0:=hcell 0 hn;have h1:w.cell? a≠none:=by
  intro hc;have:(a.add 0)=a:=by unfold Addr.add;simp
  rw [this,hc] at h0;rw [← h0] at hv;cases hv
 unfold World.cell? at h1;cases hh:w.heap[a.block]? with
 |none=>rw [hh] at h1;exact absurd rfl h1
 |some o=>
  refine ⟨?_,(Array.getElem?_eq_some_iff.1 hh).1⟩;rw [hh] at h1;cases o with
  |cells c t f=>
   simp only at h1;cases hs:a.spot with
   |none=>rfl
   |some x=>rw [hs] at h1;simp at h1
  |_=>exact absurd rfl h1
theorem rules_open {fuel:Nat} {cs:List Value} {x:DataW H×List MemPlace} (h:DataW.trod enc prog w base spare held fuel 22 cs=some x):∃ (v:Value) (l:List RuleV),cs=[v]∧Holds w v l∧(l=[]∨∃ es sp,x.1=.slice es sp∧es.length=l.length):=by
 rcases Deep.open_slice underlying22 h with ⟨rfl,_⟩|⟨a,len,cap,m,n,D,Pl,rfl,hb,hl,hm,hmm,hxx,hx⟩
 ·exact ⟨_,[],rfl,⟨.inl ⟨_,_,rfl,rfl⟩,by simp,by simp⟩,.inl rfl⟩
 ·have hlm:len≤m:=by rw [hmm];split<;>omega
  have each:∀ i,i<m→∃ r:RuleV,w.cells? base (a.add (i*11)) 11=some r.cells∧r.Fit:=by
   intro i hi;obtain ⟨cs',h1,h2⟩:=hx i hi;obtain ⟨r,rfl,hf⟩:=rule_cells h2;rw [c27] at h1;exact ⟨r,h1,hf⟩
  by_cases h0:len=0
  ·subst h0;exact ⟨_,[],rfl,⟨.inl ⟨_,_,rfl,rfl⟩,by simp,by simp⟩,.inl rfl⟩
  ·obtain ⟨q,hq⟩:∃ q:Nat→RuleV,∀ i,i<m→w.cells? base (a.add (i*11)) 11=some (q i).cells∧(q i).Fit:=
    ⟨fun i=>if hi:i<m then (each i hi).choose else ⟨⟨#[]⟩,0,0,0,0,0,0,0,0,0,⟨#[]⟩⟩,fun i hi=>by simp only [dif_pos hi];exact (each i hi).choose_spec⟩
   obtain ⟨ha,hab⟩:=info_cells (hq 0 (by omega)).1 (by decide);have ha':a=⟨a.block,a.off,none⟩:=by
    have:(a.add (0*11)).spot=a.spot:=by simp [Addr.add]
    rw [this] at ha;cases a;simp only at ha;rw [ha]
   have hab':a.block<w.heap.size:=by
    have:(a.add (0*11)).block=a.block:=by simp [Addr.add]
    rwa [this] at hab
   refine ⟨_,(List.range len).map q,rfl,⟨.inr ⟨a.block,a.off,cap,by rw [← ha'];simp,hab',?_⟩,?_,by simp;unfold maxLen at hm;omega⟩,.inr ⟨_,_,by rw [hxx],by simp⟩⟩
   ·intro i j c v hi hj;rw [List.map_map,List.getElem?_map] at hi;cases hr:(List.range len)[i]? with
    |none=>rw [hr] at hi;cases hi
    |some k=>
     rw [hr] at hi;cases hi;obtain ⟨hk,rfl⟩:=List.getElem?_eq_some_iff.1 hr;rw [List.length_range] at hk;simp only [List.getElem_range] at hj ⊢;obtain ⟨_,hlen,hcell⟩:=World.cells?_some (hq i (by omega)).1;have hj11:j<11:=by
      have:=(List.getElem?_eq_some_iff.1 hj).1;exact this
     have:=hcell j hj11;rw [Deep.add_add] at this;have he:a.add (i*11+j)=⟨a.block,a.off+i*11+j,none⟩:=by
      rw [Nat.add_assoc]
      conv=>lhs;rw [ha']
      exact addr_add _ _ _
     rw [he] at this;rw [this];exact hj
   ·intro r hr;rw [List.mem_map] at hr;obtain ⟨i,hi,rfl⟩:=hr;exact (hq i (by rw [List.mem_range] at hi;omega)).2
end
end
section
open Go.RowKit NB
structure UntilV where
 has:Bool
 year:Int
 month:Int
 kind:Int
 week:Int
 day:Int
 sec:Int
 base:Int
deriving DecidableEq
def UntilV.cells (u:UntilV):List Value:=[.bool u.has,.int .i64 u.year,.int .i64 u.month,.int .i64 u.kind,.int .i64 u.week,.int .i64 u.day,.int .i64 u.sec,.int .i64 u.base]
structure EraV where
 off:Int
 kind:Int
 save:Int
 rules:ByteArray
 format:ByteArray
 u:UntilV
deriving DecidableEq
def EraV.cells (e:EraV):List Value:=[.int .i64 e.off,.int .i64 e.kind,.int .i64 e.save,.string e.rules,.string e.format,.bool e.u.has,.int .i64 e.u.year,.int .i64 e.u.month,.int .i64 e.u.kind,.int .i64 e.u.week,.int .i64 e.u.day,.int .i64 e.u.sec,.int .i64 e.u.base]
structure EraV.Fit (e:EraV):Prop where
 r:e.rules.size≤9223372036854775807
 f:e.format.size≤9223372036854775807
 off:I64 e.off
 save:I64 e.save
 year:I64 e.u.year
 sec:I64 e.u.sec
structure UntilV.Fit (u:UntilV):Prop where
 year:I64 u.year
 sec:I64 u.sec
theorem EraV.Fit.u {e:EraV} (h:e.Fit):e.u.Fit:=⟨h.year,h.sec⟩
structure HoldsE (w:World) (v:Value) (es:List EraV):Prop where
 lies:(∃ p cap,v=.slice p 0 cap∧es=[])∨(∃ b off cap,v=.slice (some ⟨b,off,none⟩) es.length cap∧b<w.heap.size∧Lies w b off 13 (es.map EraV.cells))
 fit:∀ e∈es,e.Fit
 len:es.length≤9223372036854775807
theorem HoldsE.later {w w':World} {v:Value} {es:List EraV} (h:HoldsE w v es) (hb:Below w.heap.size w w'):HoldsE w' v es:=by
 refine ⟨?_,h.fit,h.len⟩;rcases h.lies with h1|⟨b,off,cap,h1,h2,h3⟩
 ·exact .inl h1
 ·refine .inr ⟨b,off,cap,h1,Nat.lt_of_lt_of_le h2 hb.size,fun i j cs v hi hj=> ?_⟩;rw [hb.cell (p:=⟨b,off+i*13+j,none⟩) h2];exact h3 i j cs v hi hj
theorem HoldsE.form {w:World} {v:Value} {es:List EraV} (h:HoldsE w v es):∃ p cap,v=.slice p es.length cap:=by
 rcases h.lies with ⟨p,cap,h1,h2⟩|⟨b,off,cap,h1,_,_⟩
 ·exact ⟨p,cap,by rw [h1,h2];rfl⟩
 ·exact ⟨_,cap,h1⟩
theorem HoldsE.at {w:World} {v:Value} {es:List EraV} (h:HoldsE w v es) {k:Nat} {e:EraV} (he:es[k]? =some e):∃ b off cap,v=.slice (some ⟨b,off,none⟩) es.length cap∧b<w.heap.size∧∀ (j:Nat) (u:Value),e.cells[j]? =some u→w.cell? ⟨b,off+k*13+j,none⟩=some u:=by
 rcases h.lies with ⟨p,cap,h1,h2⟩|⟨b,off,cap,h1,h2,h3⟩
 ·rw [h2] at he;simp at he
 ·exact ⟨b,off,cap,h1,h2,fun j u hu=>h3 k j _ u (by rw [List.getElem?_map,he];rfl) hu⟩
end
section
open Go.RowKit NB
namespace Er
theorem within (n m:Int) (hm:0≤m∧m≤9223372036854775807) (w:World):Calls prog 154 #[.int .i64 n,.int .i64 m] w fun e w'=>e=.returned (.bool (decide (-m≤n)&&decide (n≤m)))∧w=w':=by
 go_enter func154,ntmps154;go_wp2
 all_goals
  go_ret;refine ⟨ret_bool ?_,rfl⟩;simp [*]
  try omega
theorem inside (y:Int) (w:World):Calls prog 216 #[.int .i64 y] w fun e w'=>e=.returned (.bool (decide (-32767<y)&&decide (y<32767)))∧w=w':=by
 go_enter func216,ntmps216;go_wp2
 all_goals
  go_ret;refine ⟨ret_bool ?_,rfl⟩;simp [*]
  try omega
def noneB (u:UntilV):Bool:=decide (u.year=0)&&decide (u.month=0)&&decide (u.kind=0)&&decide (u.week=0)&&decide (u.day=0)&&decide (u.sec=0)&&decide (u.base=0)
def yearB (y:Int):Bool:=decide (-32767<y)&&decide (y<32767)
def endB (u:UntilV):Bool:=if u.has then yearB u.year&&Day.fits u.kind u.week u.day u.month&&Rul.clockRight u.sec u.base else noneB u
set_option maxHeartbeats 1600000 in
theorem ends (u:UntilV) (w:World):Calls prog 156 #[.agg u.cells.toArray] w fun e w'=>e=.returned (.bool (endB u))∧Below w.heap.size w w':=by
 have ci:=fun W=>inside u.year W;have cf:=fun W=>Day.Fits u.kind u.week u.day u.month W;have cc:=fun W=>Rul.ClockRight u.sec u.base W;rw [show (decide (-32767<u.year)&&decide (u.year<32767))=yearB u.year from rfl] at ci;unfold endB UntilV.cells;cases hh:u.has
 ·rw [if_neg (by decide)];clear ci cf cc hh;unfold noneB;go_enter func156,ntmps156;go_wp2
  all_goals
   go_ret;exact ⟨ret_bool (by simp [*]),bcq⟩
 ·rw [if_pos rfl];generalize yearB u.year=g1 at *;generalize Day.fits u.kind u.week u.day u.month=g2 at *;generalize Rul.clockRight u.sec u.base=g3 at *;have Ci:=kj ci;have Cf:=kj cf;have Cc:=kj cc;clear ci cf cc hh;go_enter func156,ntmps156
  go_wp2_with (first
   |(go_at_call 216;(with_reducible refine (Ci.out _).mono ?_);rintro e w' ⟨rfl,rfl⟩)
   |(go_at_call 217;(with_reducible refine (Cf.out _).mono ?_);rintro e w1 ⟨rfl,hb1⟩;obtain ⟨_,_,_⟩:=bcs hb1 (w.heap.size))
   |(go_at_call 218;(with_reducible refine (Cc.out _).mono ?_);rintro e w2 ⟨rfl,hb2⟩;obtain ⟨_,_,_⟩:=bcs hb2 (w.heap.size)))
  all_goals
   go_ret;exact ⟨ret_bool (by simp [*]),bcq⟩
def rightB (e:EraV):Bool:=if (decide (-54000≤e.off)&&decide (e.off≤54000))=true∧Fmt.checkE e.format=0∧endB e.u=true then
    (if e.kind=0 then decide (e.save=0)&&e.rules.toList.isEmpty else if e.kind=1 then decide (-10800≤e.save)&&decide (e.save≤10800)&&e.rules.toList.isEmpty else if e.kind=2 then decide (e.save=0)&&decide (Nam.nameE e.rules=0) else false) else false
set_option maxRecDepth 100000 in
set_option maxHeartbeats 6400000 in
theorem Right (e:EraV) (he:e.Fit) (w:World) (ht:Tab w):Calls prog 96 #[.agg e.cells.toArray] w fun x w'=>x=.returned (.bool (rightB e))∧Below w.heap.size w w':=by
 have c1:=fun W=>within e.off 54000 (by omega) W;have c2:=fun W=>within e.save 10800 (by omega) W;have c3:=fun W h=>Fmt.Check e.format he.f W h;have c4:=fun W=>ends e.u W;have c5:=fun W=>Nam.Name e.rules he.r W;obtain ⟨off,kind,save,rules,format,u⟩:=e;simp only at c1 c2 c3 c4 c5;have hoff:I64 off:=he.off;have hsave:I64 save:=he.save;unfold rightB EraV.cells;unfold UntilV.cells at c4;simp only;generalize (decide (-54000≤off)&&decide (off≤54000))=g1 at *;generalize (decide (-10800≤save)&&decide (save≤10800))=g2 at *;generalize Fmt.checkE format=k1 at *;generalize endB u=g3 at *;generalize Nam.nameE rules=k2 at *;obtain ⟨ne,hne⟩:∃ x,x=rules.toList.isEmpty:=⟨_,rfl⟩;rw [← hne];have es:rules.toList.isEmpty=ne:=hne.symm;obtain ⟨pe,hpe⟩:∃ x:Bool,x=(if g1=true∧k1=0∧g3=true then (if kind=0 then decide (save=0)&&ne else if kind=1 then g2&&ne else if kind=2 then decide (save=0)&&decide (k2=0) else false) else false):=⟨_,rfl⟩;rw [← hpe];have Hpe:=kj hpe;have C1:=kj c1;have C2:=kj c2;have C3:=kj c3;have C4:=kj c4;have C5:=kj c5;have HT:=kj ht;clear hpe c1 c2 c3 c4 c5 ht hne he;have hk:kind=0∨kind=1∨kind=2∨(¬ kind=0∧¬kind=1∧¬kind=2):=by omega
 rcases hk with rfl|rfl|rfl|⟨k0,k1',k2'⟩
 all_goals
  go_enter func96,ntmps96
  go_wp2_with (first
   |(with_reducible (go_at_call 154;(with_reducible refine (C1.out _).mono ?_);rintro e w' ⟨rfl,rfl⟩))
   |(with_reducible (go_at_call 154;(with_reducible refine (C2.out _).mono ?_);rintro e w' ⟨rfl,rfl⟩))
   |(go_at_call 155;(with_reducible refine (C3.out _ ?_).mono ?_);(· exact HT.out.later bcq);rintro e w1 ⟨rfl,hb1⟩;obtain ⟨_,_,_⟩:=bcs hb1 (w.heap.size))
   |(go_at_call 156;(with_reducible refine (C4.out _).mono ?_);rintro e w2 ⟨rfl,hb2⟩;obtain ⟨_,_,_⟩:=bcs hb2 (w.heap.size))
   |(go_at_call 157;(with_reducible refine (C5.out _).mono ?_);rintro e w3 ⟨rfl,hb3⟩;obtain ⟨_,_,_⟩:=bcs hb3 (w.heap.size)))
 all_goals
  go_ret;have hpe:=Hpe.out;simp only [*,if_true,if_false,true_and,and_true,false_and,and_false,Bool.false_eq_true,Int.reduceEq,eq_self,decide_true,decide_false,Bool.true_and,Bool.false_and] at hpe;refine ⟨ret_bool ?_,bcq⟩
  first
   |(rw [hpe];done)
   |(rw [hpe];first
    |rfl
    |(simp [*];done)
    |(rw [Bool.eq_iff_iff];simp [*];done)
    |(rw [Bool.eq_iff_iff];simp [*];omega))
end Er
end
section
namespace Yr
def G (r:Int):Int:=r-r/1460+r/36524-r/146096
def F (r:Int):Int:=G r/365
def S (y:Int):Int:=365*y+y/4-y/100+y/400
theorem G_succ (r:Int):G r≤G (r+1):=by unfold G;omega
theorem G_mono (r:Int) (n:Nat):G r≤G (r+n):=by
 induction n with
 |zero=>simp
 |succ n ih=>
  have:=G_succ (r+n);rw [show r+((n+1:Nat):Int)=r+n+1 by omega];omega
theorem F_mono {a b:Int} (h:a≤b):F a≤F b:=by
 have:=G_mono a (b-a).toNat;rw [show a+((b-a).toNat:Int)=b by omega] at this;exact Int.ediv_le_ediv (by decide) this
theorem ends:∀ y:Fin 400,F (S (y.val:Int))=y.val∧F (S (y.val+1:Int)-1)=y.val:=by decide +kernel
theorem find (r:Int) (h0:0≤r):∀ n:Nat,r<S n→∃ y:Nat,y<n∧S y≤r∧r<S (y+1:Int)
 |0,h=>by simp [S] at h;omega
 |n+1,h=>by
  by_cases hc:r<S n
  ·obtain ⟨y,h1,h2⟩:=find r h0 n hc;exact ⟨y,by omega,h2⟩
  ·exact ⟨n,by omega,by omega,by simpa using h⟩
theorem yr (r:Int) (h0:0≤r) (h1:r<146097):0≤F r∧F r≤399∧S (F r)≤r∧r<S (F r+1):=by
 obtain ⟨y,hy,h2,h3⟩:=find r h0 400 (by have:S ((400:Nat):Int)=146097:=by decide
                                        omega)
 obtain ⟨e1,e2⟩:=ends ⟨y,hy⟩;have m1:=F_mono h2;have m2:=F_mono (show r≤S (y+1:Int)-1 by omega);simp only at e1 e2;have:F r=y:=by omega
 rw [this];exact ⟨by omega,by omega,h2,h3⟩
def dq (n:Int):Int:=(n+719468)/146097
def dr (n:Int):Int:=(n+719468)%146097
def dy (n:Int):Int:=F (dr n)
def dl (n:Int):Int:=dr n-(365*dy n+dy n/4-dy n/100)
def dm (n:Int):Int:=(5*dl n+2)/153
def dY (n:Int):Int:=if 12<dm n+3 then dq n*400+dy n+1 else dq n*400+dy n
def dM (n:Int):Int:=if 12<dm n+3 then dm n+3-12 else dm n+3
def dD (n:Int):Int:=dl n-(153*dm n+2)/5+1
structure Valid (y m d:Int):Prop where
 m1:1≤m
 m2:m≤12
 d1:1≤d
 d2:d≤Cal.len y m
theorem dr_bd (n:Int):0≤dr n∧dr n<146097:=by unfold dr;omega
theorem lp_cycle (q y:Int):Cal.lp (q*400+y+1)=S (y+1)-S y-365:=by
 rw [Cal.lp_eq];unfold S;have h1:(q*400+y+1)/4=100*q+(y+1)/4:=by omega
 have h2:(q*400+y+1)/100=4*q+(y+1)/100:=by omega
 have h3:(q*400+y+1)/400=q+(y+1)/400:=by omega
 have h4:(q*400+y+1-1)/4=100*q+y/4:=by omega
 have h5:(q*400+y+1-1)/100=4*q+y/100:=by omega
 have h6:(q*400+y+1-1)/400=q+y/400:=by omega
 omega
theorem dl_eq (n:Int):dl n=dr n-S (dy n):=by
 obtain ⟨h0,h1⟩:=dr_bd n;obtain ⟨h2,h3,_,_⟩:=yr (dr n) h0 h1;unfold dl S;rw [show F (dr n)=dy n from rfl] at *;have:dy n/400=0:=by omega
 omega
theorem dl_bd (n:Int):0≤dl n∧dl n≤364+Cal.lp (dq n*400+dy n+1):=by
 obtain ⟨h0,h1⟩:=dr_bd n;obtain ⟨h2,h3,h4,h5⟩:=yr (dr n) h0 h1;rw [lp_cycle,dl_eq];rw [show F (dr n)=dy n from rfl] at *;omega
theorem dm_bd (n:Int):0≤dm n∧dm n≤11:=by
 obtain ⟨h1,h2⟩:=dl_bd n;have:=Cal.lp_01 (dq n*400+dy n+1);unfold dm;omega
theorem months0 {m:Int} (h1:0≤m) (h2:m≤11):m=0∨m=1∨m=2∨m=3∨m=4∨m=5∨m=6∨m=7∨m=8∨m=9∨m=10∨m=11:=by omega
theorem valid (n:Int):Valid (dY n) (dM n) (dD n):=by
 obtain ⟨h1,h2⟩:=dl_bd n;have:=Cal.lp_01 (dq n*400+dy n+1);obtain ⟨h4,h5⟩:=dm_bd n;have hd:dm n=(5*dl n+2)/153:=rfl;have hM:1≤dM n∧dM n≤12:=by unfold dM;split<;>omega
 refine ⟨hM.1,hM.2,by unfold dD;omega,?_⟩;unfold dY dM dD Cal.len;rcases months0 h4 h5 with h|h|h|h|h|h|h|h|h|h|h|h<;>rw [h] at hd ⊢ <;>simp<;>omega
theorem days_of (n:Int):Cal.days (dY n) (dM n) (dD n)=n:=by
 have hv:=valid n;rw [← Cal.number_eq _ _ _ hv.m1 hv.m2];obtain ⟨h4,h5⟩:=dm_bd n;obtain ⟨g0,g1⟩:=dr_bd n;obtain ⟨g2,g3,_,_⟩:=yr (dr n) g0 g1;rw [show F (dr n)=dy n from rfl] at *;have e0:Cal.y0 (dY n) (dM n)=dq n*400+dy n:=by unfold Cal.y0 dY dM;split<;>split<;>omega
 have e1:Cal.m0 (dM n)=dm n:=by unfold Cal.m0 dM;split<;>split<;>omega
 unfold Cal.number;rw [e0,e1];have e2:(dq n*400+dy n)/400=dq n:=by omega
 have e3:(dq n*400+dy n)%400=dy n:=by omega
 rw [e2,e3];have e4:dr n+146097*dq n=n+719468:=by unfold dr dq;omega
 unfold dD dl;omega
theorem ahead_le {y m d:Int} (h:Valid y m d):Cal.ahead y≤Cal.days y m d∧Cal.days y m d<Cal.ahead (y+1):=by
 have h1:=Cal.cum_bd y m h.m1 h.m2;have h2:=Cal.ahead_succ y;obtain ⟨_,_,_,_⟩:=h;unfold Cal.days;omega
theorem cum_mono {y m k:Int} (h1:1≤m) (h2:k≤12) (h:m<k):Cal.cum y m+Cal.len y m≤Cal.cum y k:=by
 have:=Cal.lp_01 y;rw [← Cal.cum_succ y m h1 (by omega)];unfold Cal.cum;rcases Cal.months h1 (by omega:m≤12) with rfl|rfl|rfl|rfl|rfl|rfl|rfl|rfl|rfl|rfl|rfl|rfl<;>
  rcases Cal.months (m:=k) (by omega) h2 with rfl|rfl|rfl|rfl|rfl|rfl|rfl|rfl|rfl|rfl|rfl|rfl<;>simp at h ⊢ <;>omega
theorem year_of (n:Int):Cal.ahead (dY n)≤n∧n<Cal.ahead (dY n+1):=by
 have:=ahead_le (valid n)
 rwa [days_of] at this
end Yr
end
section
open Go.RowKit NB
namespace Stp
theorem dq_bd (n:Int) (h0: -16000000≤n) (h1:n≤16000000): -200≤Yr.dq n∧Yr.dq n≤200:=by unfold Yr.dq;omega
set_option maxHeartbeats 1600000 in
theorem date (n:Int) (h0: -16000000≤n) (h1:n≤16000000) (w:World):
 Calls prog 241 #[.int .i64 n] w fun e w'=>e=.returned (.agg #[.int .i64 (Yr.dY n),.int .i64 (Yr.dM n),.int .i64 (Yr.dD n)])∧Below w.heap.size w w':=by
 obtain ⟨q0,q1⟩:=dq_bd n h0 h1;obtain ⟨r0,r1⟩:=Yr.dr_bd n;obtain ⟨y0,y1,_,_⟩:=Yr.yr (Yr.dr n) r0 r1;obtain ⟨l0,l1⟩:=Yr.dl_bd n;have l2:=(Cal.lp_01 (Yr.dq n*400+Yr.dy n+1)).2;have l3:Yr.dl n≤365:=by omega
 clear l1 l2;rw [show Yr.F (Yr.dr n)=Yr.dy n from rfl] at y0 y1;have hy:Yr.dy n=(Yr.dr n-Yr.dr n/1460+Yr.dr n/36524-Yr.dr n/146096)/365:=rfl;have hl:Yr.dl n=Yr.dr n-(365*Yr.dy n+Yr.dy n/4-Yr.dy n/100):=rfl;have hd:=Num.Div (n+719468) 146097 (by omega) (by omega) (by omega) (by omega);rw [show (n+719468)/146097=Yr.dq n from rfl,show (n+719468)%146097=Yr.dr n from rfl] at hd;have Hd:=kj hd;clear hd;unfold Yr.dY Yr.dM Yr.dD Yr.dm;generalize Yr.dq n=q at *;generalize Yr.dr n=r at *;generalize Yr.dy n=y at *;generalize Yr.dl n=l at *;have Hy:=kj hy;have Hl:=kj hl;clear hy hl
 by_cases hm:12<(5*l+2)/153+3
 ·rw [if_pos hm,if_pos hm];go_enter func241,ntmps241
  go_upto_region 3 with (go_at_call 132;(with_reducible refine (Hd.out _).mono ?_);rintro e w1 ⟨rfl,hb1⟩;obtain ⟨hc1_0,hf1_0,hz1_0⟩:=bcs hb1 (w.heap.size))
  rw [← Hy.out]
  go_upto_region 4 with fail
  rw [← Hl.out]
  go_wp2_with (go_at_call 133;(with_reducible refine (Civ.march _ (by omega) (by omega) _).mono ?_);rintro e w' ⟨rfl,rfl⟩)
  refine bodyPost_ret (v:=.agg #[.int .i64 (q*400+y+1),.int .i64 ((5*l+2)/153+3-12),.int .i64 (l-(153*((5*l+2)/153)+2)/5+1)]) ?_ rfl ⟨rfl,?_⟩
  ·simp only [results,results241];go_simp
  ·exact bcq
 ·rw [if_neg hm,if_neg hm];go_enter func241,ntmps241
  go_upto_region 3 with (go_at_call 132;(with_reducible refine (Hd.out _).mono ?_);rintro e w1 ⟨rfl,hb1⟩;obtain ⟨hc1_0,hf1_0,hz1_0⟩:=bcs hb1 (w.heap.size))
  rw [← Hy.out]
  go_upto_region 4 with fail
  rw [← Hl.out]
  go_wp2_with (go_at_call 133;(with_reducible refine (Civ.march _ (by omega) (by omega) _).mono ?_);rintro e w' ⟨rfl,rfl⟩)
  refine bodyPost_ret (v:=.agg #[.int .i64 (q*400+y),.int .i64 ((5*l+2)/153+3),.int .i64 (l-(153*((5*l+2)/153)+2)/5+1)]) ?_ rfl ⟨rfl,?_⟩
  ·simp only [results,results241];go_simp
  ·exact bcq
def zeroD:Value:=.tuple #[.agg #[.int .i64 0,.int .i64 0,.int .i64 0],.int .i64 1]
def okD (n:Int):Bool:=decide (-16000000≤n)&&decide (n≤16000000)&&Civ.right (Yr.dY n) (Yr.dM n) (Yr.dD n)
set_option maxHeartbeats 1600000 in
theorem Date (n:Int) (w:World):
 Calls prog 181 #[.int .i64 n] w fun e w'=>e=.returned (if okD n then .tuple #[.agg #[.int .i64 (Yr.dY n),.int .i64 (Yr.dM n),.int .i64 (Yr.dD n)],.int .i64 0] else .tuple #[.agg #[.int .i64 0,.int .i64 0,.int .i64 0],.int .i64 1])∧Below w.heap.size w w':=by
 unfold okD
 by_cases h0:n < -16000000
 ·rw [decide_eq_false (by omega:¬ -16000000≤n)];simp only [Bool.false_and,Bool.false_eq_true,if_false];go_enter func181,ntmps181;go_wp2;refine bodyPost_ret (v:=.tuple #[.agg #[.int .i64 0,.int .i64 0,.int .i64 0],.int .i64 1]) ?_ rfl ⟨rfl,?_⟩
  ·simp only [results,results181];go_simp
  ·exact bcq
 ·rw [decide_eq_true (by omega: -16000000≤n)]
  by_cases h1:n>16000000
  ·rw [decide_eq_false (by omega:¬n≤16000000)];simp only [Bool.false_and,Bool.and_false,Bool.false_eq_true,if_false];go_enter func181,ntmps181;go_wp2;refine bodyPost_ret (v:=.tuple #[.agg #[.int .i64 0,.int .i64 0,.int .i64 0],.int .i64 1]) ?_ rfl ⟨rfl,?_⟩
   ·simp only [results,results181];go_simp
   ·exact bcq
  ·rw [decide_eq_true (by omega:n≤16000000)];have cd:=date n (by omega) (by omega);have cr:=Civ.Right (Yr.dY n) (Yr.dM n) (Yr.dD n);generalize Yr.dY n=Y at *;generalize Yr.dM n=M at *;generalize Yr.dD n=D at *;cases hr:Civ.right Y M D
   all_goals
    rw [hr] at cr;have Cd:=kj cd;have Cr:=kj cr;clear cd cr hr;simp only [Bool.and_true,Bool.and_false,Bool.false_eq_true,if_false,if_true];go_enter func181,ntmps181
    go_wp2_with (first|(go_at_call 241;(with_reducible refine (Cd.out _).mono ?_);rintro e w1 ⟨rfl,hb1⟩;obtain ⟨_,_,_⟩:=bcs hb1 (w.heap.size))|(go_at_call 75;(with_reducible refine (Cr.out _).mono ?_);rintro e w2 ⟨rfl,hb2⟩;obtain ⟨_,_,_⟩:=bcs hb2 (w.heap.size);obtain ⟨_,_,_⟩:=bcs hb2 (w1.heap.size)))
   ·refine bodyPost_ret (v:=.tuple #[.agg #[.int .i64 0,.int .i64 0,.int .i64 0],.int .i64 1]) ?_ rfl ⟨rfl,?_⟩
    ·simp only [results,results181];go_simp
    ·exact bcq
   ·refine bodyPost_ret (v:=.tuple #[.agg #[.int .i64 Y,.int .i64 M,.int .i64 D],.int .i64 0]) ?_ rfl ⟨rfl,?_⟩
    ·simp only [results,results181];go_simp
    ·exact bcq
theorem Split (t:Int) (h0: -9223372036854775808<t) (h1:t≤9223372036854775807) (w:World):
 Calls prog 180 #[.int .i64 t] w fun e w'=>e=.returned (.tuple #[.int .i64 (t/86400),.int .i64 (t%86400)])∧Below w.heap.size w w':=by
 have hd:=Num.Div t 86400 h0 h1 (by omega) (by omega);have Hd:=kj hd;clear hd;go_enter func180,ntmps180
 go_wp2_with (go_at_call 132;(with_reducible refine (Hd.out _).mono ?_);rintro e w1 ⟨rfl,hb1⟩;obtain ⟨hc1,hf1⟩:=bcell hb1)
 go_ret2;exact ⟨rfl,hb1⟩
def stampOf (t:Int):List Value:=[.int .i64 (Yr.dY (t/86400)),.int .i64 (Yr.dM (t/86400)),.int .i64 (Yr.dD (t/86400)),.int .i64 (t%86400/3600),.int .i64 (t%86400%3600/60),.int .i64 (t%86400%60)]
set_option maxHeartbeats 1600000 in
theorem Of (t:Int) (h0: -9223372036854775808<t) (h1:t≤9223372036854775807) (w:World):
 Calls prog 118 #[.int .i64 t] w fun e w'=>e=.returned (if okD (t/86400) then .tuple #[.agg (stampOf t).toArray,.int .i64 0] else .tuple #[.agg #[.int .i64 0,.int .i64 0,.int .i64 0,.int .i64 0,.int .i64 0,.int .i64 0],.int .i64 1])∧Below w.heap.size w w':=by
 have cs:=Split t h0 h1;have cd:=Date (t/86400);unfold stampOf;have s0:=Int.emod_nonneg t (show (86400:Int)≠0 by decide);have s1:=Int.emod_lt_of_pos t (show (0:Int)<86400 by decide);generalize t/86400=d at *;generalize t%86400=s at *;generalize Yr.dY d=Y at *;generalize Yr.dM d=M at *;generalize Yr.dD d=D at *;cases hk:okD d
 all_goals
  rw [hk] at cd;simp only [Bool.false_eq_true,if_false,if_true] at cd ⊢;have Cd:=kj cd;have Cs:=kj cs;clear cd cs hk;go_enter func118,ntmps118
  go_wp2_with (first|(go_at_call 180;(with_reducible refine (Cs.out _).mono ?_);rintro e w1 ⟨rfl,hb1⟩;obtain ⟨_,_,_⟩:=bcs hb1 (w.heap.size))|(go_at_call 181;(with_reducible refine (Cd.out _).mono ?_);rintro e w2 ⟨rfl,hb2⟩;obtain ⟨_,_,_⟩:=bcs hb2 (w.heap.size)))
 ·refine bodyPost_ret (v:=.tuple #[.agg #[.int .i64 0,.int .i64 0,.int .i64 0,.int .i64 0,.int .i64 0,.int .i64 0],.int .i64 1]) ?_ rfl ⟨rfl,?_⟩
  ·simp only [results,results118];go_simp
  ·exact bcq
 ·refine bodyPost_ret (v:=.tuple #[.agg #[.int .i64 Y,.int .i64 M,.int .i64 D,.int .i64 (s/3600),.int .i64 (s%3600/60),.int .i64 (s%60)],.int .i64 0]) ?_ rfl ⟨rfl,?_⟩
  ·simp only [results,results118];go_simp
  ·exact bcq
end Stp
end
end Go.Proofs.YtgmfojgnjdpofaaGreatDoor
