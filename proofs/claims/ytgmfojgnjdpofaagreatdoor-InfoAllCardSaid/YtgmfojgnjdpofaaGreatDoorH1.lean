import Derived.WalkKit
import Derived.WalkSpells
import Derived.WalkLawsBesides
import Derived.BigQuiet
import Derived.Deep.Quiet
import Derived.Deep.QuietTactic
import Derived.StillTail
import Derived.Lib.Hide
import Derived.Deep.DeepFit
import Derived.Deep.DeepCutAuto
import Derived.Deep.RegionHeld3
import Derived.RangeFuncNested
import Derived.RangeFuncBound
import Derived.RangeFuncCalls
import Derived.RangeFuncLeaves
import Derived.Shelf.Strings.SlTrimAscii
import Derived.Shelf.Small.Strs
import Derived.Test.YtgmfojgnjdpofaaGreatDoorProg
namespace Go.Proofs.YtgmfojgnjdpofaaGreatDoor
open Go.Proofs.Tryz
section
open Go.RowKit
namespace NB
structure Later (B:Nat) (w:World) where
 u:World
 h:Below B w u
instance later_nonempty (B:Nat) (w:World):Nonempty (Later B w):=⟨⟨w,Below.refl _ _⟩⟩
theorem Later.cell {B:Nat} {w:World} (x:Later B w) (b o:Nat) (h:b<B):x.u.cell? ⟨b,o,none⟩=w.cell? ⟨b,o,none⟩:=x.h.cell (p:=⟨b,o,none⟩) h
theorem Later.frozen {B:Nat} {w:World} (x:Later B w) (b o:Nat) (h:b<B):x.u.frozen? ⟨b,o,none⟩=w.frozen? ⟨b,o,none⟩:=x.h.frozen (p:=⟨b,o,none⟩) h
attribute [go_sem] Later.cell Later.frozen
theorem region_later {P:Program} {id:Nat} {Q:Exit→Act→World→Prop} {a:Act} {w:World} {l:List Oper} (hm:P.follows .mixedOrders=true) (hB:Region.lexB .any l.toArray=true)
 (h:wpQuiet P l.toArray (fun w'=>∃ x:Later w.heap.size w,w'=x.u) (fun a'=>∀ w',(∃ x:Later w.heap.size w,w'=x.u)→Q .normal a' w') l a):(Code.region id l.toArray true).wp P Q a w:=
 wp_region_quiet (C:=fun w'=>∃ x:Later w.heap.size w,w'=x.u) hm hB ⟨⟨w.drew,(Below.refl _ _).drew⟩,rfl⟩ (by simpa using h)
theorem calls_later {P:Program} {f:FuncId} {args:Array Value} {B:Nat} {w:World} (x:Later B w) (hB:B≤w.heap.size) {v:Value}
 (h:Calls P f args x.u fun e w'=>e=.returned v∧Below x.u.heap.size x.u w'):Calls P f args x.u fun e w''=>e=.returned v∧∃ y:Later B w,w''=y.u:=
 h.mono fun _ w'' ⟨he,hb⟩=>⟨he,⟨w'',x.h.trans (hb.mono (Nat.le_trans hB x.h.size))⟩,rfl⟩
theorem below_of_same {P:Program} {f:FuncId} {args:Array Value} {w:World} {v:Value} (h:Calls P f args w fun e w'=>e=.returned v∧w=w'):
 Calls P f args w fun e w'=>e=.returned v∧Below w.heap.size w w':=
 h.mono fun _ _ ⟨he,hw⟩=>⟨he,hw ▸ Below.refl _ _⟩
theorem quiet_left {P:Program} {f:FuncId} {args:Array Value} {w:World} {n:Nat} {v:Value}
 (h:Calls P f args (w.drewN n) fun e w'=>e=.returned v∧w.drewN n=w'):Calls P f args (w.drewN n) fun e w''=>e=.returned v∧∃ m,w''=w.drewN m:=
 h.mono fun _ _ ⟨he,hm⟩=>⟨he,n,hm.symm⟩
theorem below_drewN {B:Nat} {a w:World} (h:Below B a w) (n:Nat):Below B a (w.drewN n):=⟨h.os,h.tape,h.output,h.size,h.block⟩
theorem sz1 {B:Nat} {a b:World} {o:Obj} (h:Below B (a.alloc o) b):a.heap.size<b.heap.size:=by
 have:=h.size;simp only [World.size_alloc] at this;omega
theorem sz2 {B:Nat} {a b:World} {o p:Obj} (h:Below B ((a.alloc o).alloc p) b):a.heap.size+1<b.heap.size:=by
 have:=h.size;simp only [World.size_alloc] at this;omega
theorem sz3 {B:Nat} {a b:World} {o p q:Obj} (h:Below B (((a.alloc o).alloc p).alloc q) b):a.heap.size+2<b.heap.size:=by
 have:=h.size;simp only [World.size_alloc] at this;omega
theorem ret_bool {a b:Bool} (h:a=b):Ending.returned (.bool a)=.returned (.bool b):=by rw [h]
theorem ret_int {k:IntKind} {a b:Int} (h:a=b):Ending.returned (.int k a)=.returned (.int k b):=by rw [h]
theorem ret_ii {a b a' b':Int} (h:a=a') (h2:b=b'):Ending.returned (.tuple #[.int .i64 a,.int .i64 b])=.returned (.tuple #[.int .i64 a',.int .i64 b']):=by rw [h,h2]
theorem bcell {B:Nat} {W w1:World} (hb:Below B W w1):(∀ b o,b<B→w1.cell? ⟨b,o,none⟩=W.cell? ⟨b,o,none⟩)∧(∀ b o,b<B→w1.frozen? ⟨b,o,none⟩=W.frozen? ⟨b,o,none⟩):=
 ⟨fun b o h=>hb.cell (p:=⟨b,o,none⟩) h,fun b o h=>hb.frozen (p:=⟨b,o,none⟩) h⟩
end NB
end
section
open Go.RowKit
namespace NB
theorem bt {a b c:World} (h:Below a.heap.size a b) (h':Below b.heap.size b c):Below a.heap.size a c:=h.trans (h'.mono h.size)
theorem ba {a b:World} {o:Obj} (h:Below a.heap.size a b):Below a.heap.size a (b.alloc o):=h.alloc h.size _
theorem bd {a b:World} (h:Below a.heap.size a b):Below a.heap.size a b.drew:=h.drew
theorem bdn {a b:World} (h:Below a.heap.size a b) (n:Nat):Below a.heap.size a (b.drewN n):=below_drewN h n
theorem bset {a b:World} {n o:Nat} {v:Value} (h:Below a.heap.size a b) (hn:a.heap.size≤n):Below a.heap.size a (b.setCell ⟨n,o,none⟩ v):=h.setCell hn _
theorem new_cell (X:World) (cs:Array Value) (t:TypeId) (o:Nat):(X.alloc (.cells cs t)).cell? ⟨X.heap.size,o,none⟩=cs[o]? :=cell_of_row _ _ _ _ _ _ (heap_alloc_new X _)
theorem new_cell_drew (X:World) (cs:Array Value) (t:TypeId) (o:Nat):(X.alloc (.cells cs t)).drew.cell? ⟨X.heap.size,o,none⟩=cs[o]? :=new_cell X cs t o
theorem box2 {w V:World} {a b:Array Value} {s t:TypeId} (hV:V=(w.alloc (.cells a s)).alloc (.cells b t)):
 (w.heap.size<V.heap.size∧w.heap.size+1<V.heap.size)∧Below w.heap.size w V∧∀ u,Below V.heap.size V u→(∀ o,u.cell? ⟨w.heap.size,o,none⟩=a[o]?)∧(∀ o,u.cell? ⟨w.heap.size+1,o,none⟩=b[o]?)∧V.heap.size≤u.heap.size:=by
 have e:V.heap.size=w.heap.size+2:=by rw [hV];simp
 refine ⟨by omega,by rw [hV];exact ba (ba (Below.refl _ _)),fun u hu=>⟨fun o=> ?_,fun o=> ?_,hu.size⟩⟩
 ·rw [hu.cell (p:=⟨w.heap.size,o,none⟩) (by rw [e];show w.heap.size<_;omega),hV];rw [World.cell?_alloc_past _ _ _ (by simp)];exact new_cell w a s o
 ·rw [hu.cell (p:=⟨w.heap.size+1,o,none⟩) (by rw [e];exact Nat.lt_succ_self _),hV];have:=new_cell (w.alloc (.cells a s)) b t o
  rwa [World.size_alloc] at this
theorem new_free (X:World) (cs:Array Value) (t:TypeId) (o:Nat):(X.alloc (.cells cs t)).frozen? ⟨X.heap.size,o,none⟩=false:=by
 unfold World.frozen?;have h:=heap_alloc_new X (.cells cs t);simp only;rw [h];simp
theorem box2f {w V:World} {a b:Array Value} {s t:TypeId} (hV:V=(w.alloc (.cells a s)).alloc (.cells b t)):
 ∀ u,Below V.heap.size V u→(∀ o,u.frozen? ⟨w.heap.size,o,none⟩=false)∧(∀ o,u.frozen? ⟨w.heap.size+1,o,none⟩=false):=by
 have e:V.heap.size=w.heap.size+2:=by rw [hV];simp
 refine fun u hu=>⟨fun o=> ?_,fun o=> ?_⟩
 ·rw [hu.frozen (p:=⟨w.heap.size,o,none⟩) (by rw [e];show w.heap.size<_;omega),hV];rw [World.frozen?_alloc_past _ _ _ (by simp)];exact new_free w a s o
 ·rw [hu.frozen (p:=⟨w.heap.size+1,o,none⟩) (by rw [e];exact Nat.lt_succ_self _),hV];have:=new_free (w.alloc (.cells a s)) b t o
  rwa [World.size_alloc] at this
theorem toList_inj {a b:ByteArray} (h:a.toList=b.toList):a=b:=by
 rw [ByteArray.toList_eq,ByteArray.toList_eq] at h;cases a;cases b;simp only at h
 congr 1
 exact Array.ext' h
theorem str_ne {a b:ByteArray} (h:a≠b):(a.toList==b.toList)=false:=by
 rw [beq_eq_false_iff_ne];exact fun e=>h (toList_inj e)
theorem str_eq {a b:ByteArray} (h:a=b):(a.toList==b.toList)=true:=by
 rw [h];simp
def Box (w:World) (b:Nat) (cs:Array Value) (t:TypeId):Prop:=w.heap[b]? =some (.cells cs t)
theorem Box.lt {w:World} {b:Nat} {cs:Array Value} {t:TypeId} (h:Box w b cs t):b<w.heap.size:=(Array.getElem?_eq_some_iff.1 h).1
theorem Box.cell {w:World} {b:Nat} {cs:Array Value} {t:TypeId} (h:Box w b cs t) (o:Nat):w.cell? ⟨b,o,none⟩=cs[o]? :=cell_of_row _ _ _ _ _ _ h
theorem Box.free {w:World} {b:Nat} {cs:Array Value} {t:TypeId} (h:Box w b cs t) (o:Nat):w.frozen? ⟨b,o,none⟩=false:=by
 unfold World.frozen?;simp only;rw [show w.heap[b]? =some (.cells cs t) from h];simp
theorem Box.new (X:World) (cs:Array Value) (t:TypeId):Box (X.alloc (.cells cs t)) X.heap.size cs t:=heap_alloc_new X _
theorem Box.old {X:World} {b:Nat} {cs:Array Value} {t:TypeId} {o:Obj} (h:Box X b cs t):Box (X.alloc o) b cs t:=(Below.heap_alloc X o b h.lt).trans h
theorem Box.drew {X:World} {b:Nat} {cs:Array Value} {t:TypeId} (h:Box X b cs t):Box X.drew b cs t:=h
theorem Box.drewN {X:World} {b:Nat} {cs:Array Value} {t:TypeId} (h:Box X b cs t) (n:Nat):Box (X.drewN n) b cs t:=h
theorem Box.later {X Y:World} {b:Nat} {cs:Array Value} {t:TypeId} (h:Box X b cs t) (hb:Below X.heap.size X Y):Box Y b cs t:=(hb.block b h.lt).trans h
theorem Box.other {X:World} {b n j:Nat} {cs:Array Value} {t:TypeId} {v:Value} (h:Box X b cs t) (hn:b≠n):Box (X.setCell ⟨n,j,none⟩ v) b cs t:=(Below.heap_setCell X ⟨n,j,none⟩ v b hn).trans h
theorem Box.set {X:World} {b j:Nat} {cs:Array Value} {t:TypeId} {v:Value} (h:Box X b cs t):Box (X.setCell ⟨b,j,none⟩ v) b (cs.setIfInBounds j v) t:=by
 unfold Box World.setCell;simp only [Array.getElem?_modify];rw [show X.heap[b]? =some (.cells cs t) from h];simp
theorem Box.set3 {X:World} {b:Nat} {x y z x' y' z':Value} {t:TypeId} (h:Box X b #[x,y,z] t):Box (((X.setCell ⟨b,0,none⟩ x').setCell ⟨b,1,none⟩ y').setCell ⟨b,2,none⟩ z') b #[x',y',z'] t:=
 ((h.set (j:=0) (v:=x')).set (j:=1) (v:=y')).set (j:=2) (v:=z')
end NB
end
section
open Go.RowKit
theorem kj {p:Prop} (h:p):Go.RowKit.Hid p:=Go.Lib.hid h
theorem bcq {p:Prop} (h:p:=by repeat (first|(with_reducible exact Go.RowKit.Below.refl _ _)|(with_reducible assumption)|(with_reducible refine NB.ba ?_)|(with_reducible refine NB.bd ?_)|(with_reducible refine NB.bdn ?_ _)|(with_reducible refine NB.bset ?_ (by first|exact Nat.le_refl _|omega|(simp;done)|(simp;omega)))|(with_reducible refine NB.bt ?_ (by with_reducible assumption)))):p:=h
theorem bxq {p:Prop} (h:p:=by repeat (first|(with_reducible assumption)|(with_reducible exact NB.Box.new _ _ _)|(with_reducible refine NB.Box.old ?_)|(with_reducible refine NB.Box.drew ?_)|(with_reducible refine NB.Box.drewN ?_ _)|(with_reducible refine NB.Box.other ?_ (by first|assumption|omega|(simp;omega)))|(with_reducible refine NB.Box.later ?_ (by with_reducible assumption)))):p:=h
theorem szq {p:Prop} (h:p:=by first|assumption|omega|(simp;done)|(simp;omega)):p:=h
theorem szb {b n:Nat} {X Y:World} (hb:Go.RowKit.Below n X Y) (h:b<X.heap.size:=by first|assumption|omega|(simp;done)|(simp;omega)):b<Y.heap.size:=Nat.lt_of_lt_of_le h hb.size
theorem bcs {X Y:World} (hb:Go.RowKit.Below X.heap.size X Y) (b:Nat) (h:b<X.heap.size:=by first|assumption|omega|(simp;done)|(simp;omega)):(∀ o,Y.cell? ⟨b,o,none⟩=X.cell? ⟨b,o,none⟩)∧(∀ o,Y.frozen? ⟨b,o,none⟩=X.frozen? ⟨b,o,none⟩)∧b<Y.heap.size:=⟨fun o=>(NB.bcell hb).1 b o h,fun o=>(NB.bcell hb).2 b o h,Nat.lt_of_lt_of_le h hb.size⟩
end
section
open Go.RowKit NB
namespace Rng
variable {F:Fence} {n:Nat} {P:Program}
def Iter {α:Type} (F:Fence) (n:Nat) (P:Program) (g:Nat) (lb:Array Value) (encs:α→Array Value) (xs:List α) (Kp:Nat→World→World→Prop) (w:World):Prop:=
 ∀ (l:Nat) (J:Nat→List α→World→Prop) (Jx:List α→World→Prop),
   (∀ c pre A B,J c pre A→Below A.heap.size A B→J c pre B)→
   (∀ c pre A o v,w.heap.size≤c→J c pre A→J c pre (A.setCell ⟨c,o,none⟩ v))→
   (∀ c pre x A,w.heap.size≤c→c<A.heap.size→J c pre A→YieldAt F (n-1) P l (encs x) A fun e B=>(e=.returned (.bool true)∧J c (pre++[x]) B∧Kp c A B)∨(e=.returned (.bool false)∧Jx (pre++[x]) B))→
   (∀ c,w.heap.size≤c→J c [] w)→
   CallsIn F n P g (#[.func (.yield l) #[] #[]]++lb) w fun e B=>(∃ v,e=.returned v)∧((∃ c,w.heap.size≤c∧J c xs B)∨(∃ pre,pre <+: xs∧Jx pre B))
theorem grown_of_below {A B:World} (h:Below A.heap.size A B):A.grownBy B none:=⟨h.os,h.tape,h.output,h.size,fun k hk _=>h.block k hk⟩
def Left {α:Type} (B:Nat) (Kp:World→World→Prop) (I:List α→World→Prop) (Ix:Code→List α→World→Prop) (xs:List α) (W:World):Exit→Act→World→Prop
 | .normal,_,V=>KeepsFrom B W V∧Kp W V∧I xs V
 | .ret,_,V=>KeepsFrom B W V∧Ix .ret xs V
 | .exit id,_,V=>KeepsFrom B W V∧Ix (.exit id) xs V
 | .goto t,_,V=>KeepsFrom B W V∧Ix (.goto t) xs V
 | .panic _,_,_=>False
 | .outgrown,_,_=>False
theorem range {α:Type} {g:Operand} {ps:Array Tmp} {assign body:Code} {Q:Exit→Act→World→Prop} {a:Act} {w:World}
 (hro:F.round=none) (h1:1≤n) {gf:Nat} {lb:Array Value} (hg:a.eval g=.func (.func gf) #[] lb) (hFg:F.fn gf) (eg:∀ args w,(callFunc gf args).run P w=.ok (.enter gf args) w)
 {encs:α→Array Value} {xs:List α} {Kp:Nat→World→World→Prop}
 (hseq:∀ W,Below w.heap.size w W→w.heap.size+2≤W.heap.size→Iter F (n-1) P gf lb encs xs Kp W)
 (hKt:∀ {c:Nat} {A B C:World},Kp c A B→Kp c B C→Kp c A C)
 (hKb:∀ (c:Nat) (W:World) (l:Nat) (o o':Obj),w.heap.size≤l→l<w.heap.size+2→w.heap.size+2≤c→W.heap[l]? =some o→Kp c W (W.putObj l o'))
 (hps:∀ x,(encs x).size=ps.size)
 (I:Nat→List α→World→Prop) (Ix:Code→List α→World→Prop) (hI:∀ c,OwnFrom w.heap.size (I c))
 (hIc:∀ c pre A o v,w.heap.size+2≤c→I c pre A→I c pre (A.setCell ⟨c,o,none⟩ v)) (hIx:∀ c,OwnFrom w.heap.size (Ix c)) (h0:∀ c,w.heap.size+2≤c→I c [] w)
 (Ax:Nat→α→Act→World→Prop) (hAx:∀ c x a',OwnFrom w.heap.size (fun (_:Unit) W=>Ax c x a' W))
 (hassign:∀ (l c:Nat) (pre:List α) (x:α) (W:World) (K:Act→World→Prop),w.heap.size+2≤c→c<W.heap.size→I c pre W→(∀ a' V,KeepsFrom w.heap.size W V→Kp c W V→I c pre V→Ax c x a' V→K a' V)→
   assign.wpIn (F.inRound l) (n-1-1) P (Exit.then K (fun _ _ _=>False)) { tmps:=(ps.zip (encs x)).foldl (fun t (p,v)=>t.setIfInBounds p v) a.tmps,defers:=[]} W)
 (hbody:∀ (l c:Nat) (pre:List α) (x:α) (a':Act) (W:World),w.heap.size+2≤c→c<W.heap.size→I c pre W→Ax c x a' W→body.wpIn (F.inRound l) (n-1-1) P (Left w.heap.size (Kp c) (I c) Ix (pre++[x]) W) a' W)
 (hdone:∀ (D c:Nat) (W:World),w.heap.size≤D→w.heap.size+2≤c→I c xs W→W.heap[D]? =some (.deferred (some []))→Q .normal { a with defers:={ target:=.collected D,args:=#[]} :: a.defers} W)
 (hstop:∀ (D:Nat) (c:Code) (pre:List α) (W:World),w.heap.size≤D→pre <+: xs→Ix c pre W→W.heap[D]? =some (.deferred (some []))→c.wpIn F n P Q { a with defers:={ target:=.collected D,args:=#[]} :: a.defers} W):
 (Code.rangeFunc g ps assign body).wpIn F n P Q a w:=by
 refine wpIn_rangeFunc fun fn hfn=> ?_;rw [hro];obtain ⟨rec,hrec⟩:∃ rec:LoopState→Option Code→Loop,rec=fun st pe=>{ state:=st,pending:=pe,fn,tmps:=a.tmps,params:=ps,assign,body,defers:=w.heap.size}:=⟨_,rfl⟩;obtain ⟨V,hV⟩:∃ V,V=(w.alloc (.deferred (some []))).alloc (.loop (rec .ready none)):=⟨_,rfl⟩;have hs:V.heap.size=w.heap.size+2:=by rw [hV];simp
 have hL:V.heap[w.heap.size+1]? =some (.loop (rec .ready none)):=by
  have:=World.alloc_heap_new (w.alloc (.deferred (some []))) (.loop (rec .ready none))
  rwa [World.size_alloc, ←hV] at this
 have hD:V.heap[w.heap.size]? =some (.deferred (some [])):=by
  rw [hV];exact (Below.heap_alloc _ _ _ (by simp)).trans (World.alloc_heap_new w _)
 have hBV:Below w.heap.size w V:=by rw [hV];exact ba (ba (Below.refl _ _))
 refine ⟨w.heap.size+1,[{ target:=.collected w.heap.size,args:=#[]}],V,{ target:=.fn (.func gf) lb,args:=#[.func (.yield (w.heap.size+1)) #[] #[]]},V,gf,
  #[.func (.yield (w.heap.size+1)) #[] #[]]++lb,V,?_,?_,?_,?_,fun _=>h1,?_⟩
 ·rw [hV,hrec];exact run_enterLoop_outer _ _ _ _ _
 ·simp only [resolve,hg];simp [go_sem]
 ·intro f' hf';simp [Target.leads] at hf';subst hf';exact hFg
 ·simp [invoke,go_sem,eg]
 ·have turn:∀ {A:World} (jump:Option Code),A.heap[w.heap.size+1]? =some (.loop { rec .ready none with state:=.busy})→A.heap[w.heap.size]? =some (.deferred (some []))→
   (Instr.endRound (w.heap.size+1) jump).run P A=.ok (.bool jump.isNone) (A.putObj (w.heap.size+1) (.loop (rec (if jump.isNone then .ready else .done) jump)))∧
     (A.putObj (w.heap.size+1) (.loop (rec (if jump.isNone then .ready else .done) jump))).heap[w.heap.size+1]? =some (.loop (rec (if jump.isNone then .ready else .done) jump))∧
     (A.putObj (w.heap.size+1) (.loop (rec (if jump.isNone then .ready else .done) jump))).heap[w.heap.size]? =some (.deferred (some [])):=by
   intro A jump hl hd;have:=run_endRound (P:=P) jump hl;rw [hrec] at this ⊢;exact ⟨this,World.putObj_heap_same (Array.getElem?_eq_some_iff.1 hl).1,(World.putObj_heap_other (by omega)).trans hd⟩
  refine (hseq V hBV (by omega) (w.heap.size+1)
   (fun c pre W=>w.heap.size+2≤c∧I c pre W∧W.heap[w.heap.size+1]? =some (.loop (rec .ready none))∧W.heap[w.heap.size]? =some (.deferred (some [])))
   (fun pre W=>∃ c,Ix c pre W∧W.heap[w.heap.size+1]? =some (.loop (rec .done (some c)))∧W.heap[w.heap.size]? =some (.deferred (some [])))
   ?_ ?_ ?_ ?_).mono ?_
  ·rintro c pre A B ⟨hc,hi,hl,hd⟩ hb;exact ⟨hc,hI c pre A B none hi (grown_of_below hb) (fun r e=>by cases e),(hb.block _ (Array.getElem?_eq_some_iff.1 hl).1).trans hl,(hb.block _ (Array.getElem?_eq_some_iff.1 hd).1).trans hd⟩
  ·rintro c pre A o v hc ⟨hc2,hi,hl,hd⟩;exact ⟨hc2,hIc c pre A o v hc2 hi,(Below.heap_setCell A ⟨c,o,none⟩ v _ (by show _≠c;omega)).trans hl,(Below.heap_setCell A ⟨c,o,none⟩ v _ (by show _≠c;omega)).trans hd⟩
  ·rintro c pre x W hc hcW ⟨hc2,hi,hl,hd⟩;have hy:=run_yield (P:=P) (args:=encs x) hl (by rw [hrec];exact hps x);rw [hrec] at hy;refine ⟨fn,_,assign,body,hy,roundIn_of_wpIn hfn (hassign _ c pre x W _ hc2 hcW hi fun a' X hkX hpX hiX hax=> ?_)⟩;clear hy;have hlX:=hkX.same _ _ (by omega) hl rfl;have hdX:=hkX.same _ _ (Nat.le_refl _) hd rfl;have hltX:w.heap.size+1<X.heap.size:=(Array.getElem?_eq_some_iff.1 hlX).1;refine ⟨_,run_beginRound hlX (by rw [hrec]),?_⟩;obtain ⟨Y,hY⟩:∃ Y,Y=X.putObj (w.heap.size+1) (.loop { rec .ready none with state:=.busy}):=⟨_,rfl⟩;rw [← hY];have hlY:Y.heap[w.heap.size+1]? =some (.loop { rec .ready none with state:=.busy}):=by rw [hY];exact World.putObj_heap_same hltX
   have hdY:Y.heap[w.heap.size]? =some (.deferred (some [])):=by rw [hY];exact (World.putObj_heap_other (by omega)).trans hdX
   have hpY:Kp c X Y:=by rw [hY];exact hKb c X _ _ _ (by omega) (by omega) hc2 hlX
   have hiY:I c pre Y:=by rw [hY];exact (hI c).putObj _ hiX (by omega) hlX rfl
   have haY:Ax c x a' Y:=by rw [hY];exact (hAx c x a').putObj (s:=()) _ hax (by omega) hlX rfl
   have hsY:Y.heap.size=X.heap.size:=by rw [hY];simp
   refine wpIn_mono (hbody _ c pre x a' Y hc2 (by rw [hsY];exact Nat.lt_of_lt_of_le hcW hkX.size) hiY haY) ?_;rintro e b Z hp;cases e with
   |normal=>
    obtain ⟨hk,hpZ,hiZ⟩:=hp;obtain ⟨hr,e1,e2⟩:=turn none (hk.same _ _ (by omega) hlY rfl) (hk.same _ _ (Nat.le_refl _) hdY rfl);have hlZ:=hk.same _ _ (by omega) hlY rfl;exact ⟨_,_,hr,.inl ⟨rfl,⟨hc2,(hI c).putObj _ hiZ (by omega) hlZ rfl,e1,e2⟩,hKt hpX (hKt hpY (hKt hpZ (hKb c Z _ _ _ (by omega) (by omega) hc2 hlZ)))⟩⟩
   |ret=>
    obtain ⟨hk,hiZ⟩:=hp;have hlZ:=hk.same _ _ (by omega) hlY rfl;obtain ⟨hr,e1,e2⟩:=turn (some .ret) hlZ (hk.same _ _ (Nat.le_refl _) hdY rfl);exact ⟨_,_,hr,.inr ⟨rfl,.ret,(hIx _).putObj _ hiZ (by omega) hlZ rfl,e1,e2⟩⟩
   |exit id=>
    obtain ⟨hk,hiZ⟩:=hp;have hlZ:=hk.same _ _ (by omega) hlY rfl;obtain ⟨hr,e1,e2⟩:=turn (some (.exit id)) hlZ (hk.same _ _ (Nat.le_refl _) hdY rfl);exact ⟨_,_,hr,.inr ⟨rfl,.exit id,(hIx _).putObj _ hiZ (by omega) hlZ rfl,e1,e2⟩⟩
   |goto t=>
    obtain ⟨hk,hiZ⟩:=hp;have hlZ:=hk.same _ _ (by omega) hlY rfl;obtain ⟨hr,e1,e2⟩:=turn (some (.goto t)) hlZ (hk.same _ _ (Nat.le_refl _) hdY rfl);exact ⟨_,_,hr,.inr ⟨rfl,.goto t,(hIx _).putObj _ hiZ (by omega) hlZ rfl,e1,e2⟩⟩
   |panic ch=>exact hp.elim
   |outgrown=>exact hp.elim
  ·intro c hc;exact ⟨by omega,by rw [hV];exact (hI c).alloc _ ((hI c).alloc _ (h0 c (by omega))),hL,hD⟩
  ·rintro e W ⟨⟨v,rfl⟩,(⟨c,hc,hc2,hi,hl,hd⟩|⟨pre,hpre,c,hi,hl,hd⟩)⟩
   ·exact ⟨none,_,by have:=run_endLoop (P:=P) hl (by rw [hrec];simp);rw [hrec] at this;exact this,hdone _ c _ (Nat.le_refl _) hc2 ((hI c).putObj _ hi (by omega) hl rfl) ((World.putObj_heap_other (by omega)).trans hd)⟩
   ·exact ⟨some c,_,by have:=run_endLoop (P:=P) hl (by rw [hrec];simp);rw [hrec] at this;exact this,hstop _ c pre _ (Nat.le_refl _) hpre ((hIx c).putObj _ hi (by omega) hl rfl) ((World.putObj_heap_other (by omega)).trans hd)⟩
end Rng
end
section
open Go.Shelf
def Tryz.lays160_ren:Go.Shelf.Ren:=⟨fun|160=>299|232=>318|231=>317|227=>319|234=>321|233=>320|236=>323|235=>322|228=>336|271=>339|151=>338|197=>337|120=>347|152=>346|260=>345|137=>219|119=>348|224=>334|225=>333|217=>274|266=>300|n=>n,fun|9=>9|4=>4|3=>3|5=>5|117=>327|116=>326|0=>0|124=>330|21=>21|105=>334|46=>206|119=>342|139=>345|138=>344|n=>n,fun|3=>2|4=>3|n=>n⟩
theorem Tryz.lays160:Go.Proofs.Lays.n160 prog Tryz.lays160_ren:={
 mixed:=by kernel_rfl,
 f119:=func348.trans (congrArg some (by kernel_rfl)),
 f120:=func347.trans (congrArg some (by kernel_rfl)),
 f137:=func219.trans (congrArg some (by kernel_rfl)),
 f151:=func338.trans (congrArg some (by kernel_rfl)),
 f152:=func346.trans (congrArg some (by kernel_rfl)),
 f160:=func299.trans (congrArg some (by kernel_rfl)),
 f197:=func337.trans (congrArg some (by kernel_rfl)),
 f217:=func274.trans (congrArg some (by kernel_rfl)),
 f224:=func334.trans (congrArg some (by kernel_rfl)),
 f225:=func333.trans (congrArg some (by kernel_rfl)),
 f227:=func319.trans (congrArg some (by kernel_rfl)),
 f228:=func336.trans (congrArg some (by kernel_rfl)),
 f231:=func317.trans (congrArg some (by kernel_rfl)),
 f232:=func318.trans (congrArg some (by kernel_rfl)),
 f233:=func320.trans (congrArg some (by kernel_rfl)),
 f234:=func321.trans (congrArg some (by kernel_rfl)),
 f235:=func322.trans (congrArg some (by kernel_rfl)),
 f236:=func323.trans (congrArg some (by kernel_rfl)),
 f260:=func345.trans (congrArg some (by kernel_rfl)),
 f266:=func300.trans (congrArg some (by kernel_rfl)),
 f271:=func339.trans (congrArg some (by kernel_rfl)),
 t0:=underlying0,
 a0:=isAgg0,
 z0:=sizeOf0,
 v0:=zeroValue0,
 t3:=underlying3,
 a3:=isAgg3,
 z3:=sizeOf3,
 v3:=zeroValue3,
 t4:=underlying4,
 a4:=isAgg4,
 z4:=sizeOf4,
 v4:=zeroValue4,
 t5:=underlying5,
 a5:=isAgg5,
 z5:=sizeOf5,
 v5:=zeroValue5,
 t9:=underlying9,
 a9:=isAgg9,
 z9:=sizeOf9,
 v9:=zeroValue9,
 t21:=underlying21,
 a21:=isAgg21,
 z21:=sizeOf21,
 v21:=zeroValue21,
 t46:=underlying206,
 a46:=isAgg206,
 z46:=sizeOf206,
 v46:=zeroValue206,
 t105:=underlying334,
 a105:=isAgg334,
 z105:=sizeOf334,
 v105:=zeroValue334,
 t116:=underlying326,
 a116:=isAgg326,
 z116:=sizeOf326,
 t117:=underlying327,
 a117:=isAgg327,
 z117:=sizeOf327,
 v117:=zeroValue327,
 t119:=underlying342,
 a119:=isAgg342,
 z119:=sizeOf342,
 t124:=underlying330,
 a124:=isAgg330,
 z124:=sizeOf330,
 v124:=zeroValue330,
 t138:=underlying344,
 a138:=isAgg344,
 z138:=sizeOf344,
 v138:=zeroValue344,
 t139:=underlying345,
 a139:=isAgg345,
 z139:=sizeOf345,
 v139:=zeroValue345,
 g3:=by kernel_rfl,
 g4:=by kernel_rfl}
def Tryz.lays137_ren:Go.Shelf.Ren:=⟨fun|137=>219|217=>274|266=>300|n=>n,fun|9=>9|5=>5|3=>3|n=>n,fun|n=>n⟩
theorem Tryz.lays137:Go.Proofs.Lays.n137 prog Tryz.lays137_ren:={
 mixed:=by kernel_rfl,
 f137:=func219.trans (congrArg some (by kernel_rfl)),
 f217:=func274.trans (congrArg some (by kernel_rfl)),
 f266:=func300.trans (congrArg some (by kernel_rfl)),
 t3:=underlying3,
 a3:=isAgg3,
 z3:=sizeOf3,
 v3:=zeroValue3,
 t5:=underlying5,
 a5:=isAgg5,
 z5:=sizeOf5,
 v5:=zeroValue5,
 t9:=underlying9,
 a9:=isAgg9,
 z9:=sizeOf9,
 v9:=zeroValue9}
open Go.RowKit
namespace Lb
theorem Trim (s cutset:ByteArray) (w:World) (hs:s.size≤9223372036854775807) (hcs:cutset.size<4294967281) (hascii:∀ (j:Nat) b,cutset.data.toList[j]? =some b→b.toNat<128):
 Calls prog 299 #[.string s,.string cutset] w fun e w'=>e=.returned (.string ⟨(Go.Lib.trimS s.data.toList cutset.data.toList).toArray⟩)∧Below w.heap.size w w':=
 Any.strings_Trim_laid Tryz.lays160 (by kernel_rfl) s cutset w hs hcs hascii
theorem IndexByte (s:ByteArray) (c:Int) (w:World):
 Calls prog 219 #[.string s,.int .u8 c] w fun e w'=>e=.returned (.int .i64 (Go.Lib.indexByte s.data.toList c.toNat.toUInt8))∧w=w':=
 (Any.strings_IndexByte Tryz.lays137 s c w).mono fun _ _ ⟨he,hw⟩=>⟨he,hw.symm⟩
theorem bytes_of (w:World) (s:ByteArray):∃ (cap:Nat) (o:Obj),(convert 9 256 (.string s)).run prog w=.ok (.slice (some ⟨w.heap.size,0,none⟩) s.size cap) (w.alloc o).drew∧
 ∀ (j:Nat) (c:UInt8),s.data.toList[j]? =some c→(w.alloc o).cell? ⟨w.heap.size,j,none⟩=some (.int .u8 c.toNat):=by
 refine ⟨_,_,run_bytes_of_string w 9 256 5 s underlying9 underlying256 underlying5,fun j c hc=> ?_⟩;have hj:j<s.data.size:=by
  have:=(List.getElem?_eq_some_iff.1 hc).1
  simpa using this
 have hb:(w.alloc (.cells (bytesRow s (grownCap w s.size 0 5)) 5 ((bytesRow s (grownCap w s.size 0 5)).size,(bytesRow s (grownCap w s.size 0 5)).size+1))).heap[w.heap.size]? =some (.cells (bytesRow s (grownCap w s.size 0 5)) 5 ((bytesRow s (grownCap w s.size 0 5)).size,(bytesRow s (grownCap w s.size 0 5)).size+1)):=heap_alloc_new w _;rw [cell_of_row _ _ _ _ _ _ hb];unfold bytesRow;rw [Array.getElem?_append_left (by simpa using hj),Array.getElem?_map];have:s.data[j]? =some c:=by rw [← Array.getElem?_toList];exact hc
 rw [this];rfl
end Lb
end
section
open Go.RowKit
namespace Pl
theorem toInt_ofInt64 (a:Int) (h0: -9223372036854775808≤a) (h1:a≤9223372036854775807):(BitVec.ofInt 64 a).toInt=a:=by
 rw [BitVec.toInt_ofInt,Int.bmod_def];omega
theorem wrap_toNat (x:BitVec 64):IntKind.i64.wrap (x.toNat:Int)=x.toInt:=by
 rw [IntKind.wrap_i64,BitVec.toInt_eq_toNat_cond];have:=x.isLt
 split<;>omega
theorem bits_xor_eq (a b:Int):bits .xor .i64 a b=(BitVec.ofInt 64 a ^^^ BitVec.ofInt 64 b).toInt:=by
 rw [← wrap_toNat];rfl
theorem xor_neg (a b:Int) (h0: -9223372036854775808≤a) (h1:a≤9223372036854775807) (h2: -9223372036854775808≤b) (h3:b≤9223372036854775807):
 (bits .xor .i64 a b<0)↔((a<0∧0≤b)∨(0≤a∧b<0)):=by
 have e:=bits_xor_eq a b;have m:=BitVec.msb_eq_toInt (x:=BitVec.ofInt 64 a ^^^ BitVec.ofInt 64 b);have ma:=BitVec.msb_eq_toInt (x:=BitVec.ofInt 64 a);have mb:=BitVec.msb_eq_toInt (x:=BitVec.ofInt 64 b);rw [BitVec.msb_xor,ma,mb,toInt_ofInt64 a h0 h1,toInt_ofInt64 b h2 h3] at m;rw [e];generalize (BitVec.ofInt 64 a ^^^ BitVec.ofInt 64 b).toInt=x at m
 by_cases ha:a<0<;>by_cases hb:b<0<;>simp only [ha,hb,decide_true,decide_false,bne_self_eq_false,Bool.bne_true,Bool.bne_false,Bool.not_false] at m
 ·have:¬x<0:=of_decide_eq_false m.symm;omega
 ·have:x<0:=of_decide_eq_true (by simpa using m.symm);omega
 ·have:x<0:=of_decide_eq_true (by simpa using m.symm);omega
 ·have:¬x<0:=of_decide_eq_false m.symm;omega
theorem and_mask (k:Nat) (a:Int) (hk:k<63):
 bits .and .i64 a ((2 ^ k-1:Nat):Int)=a%((2 ^ k:Nat):Int):=by
 have hp:2 ^ k<2 ^ 63:=Nat.pow_lt_pow_right (by omega) hk;have hp1:0<2 ^ k:=Nat.two_pow_pos k;show IntKind.i64.wrap ((BitVec.ofInt 64 a &&& BitVec.ofInt 64 ((2 ^ k-1:Nat):Int)).toNat:Int)=_;rw [BitVec.toNat_and,BitVec.ofInt_natCast,BitVec.toNat_ofNat];have e1:(2 ^ k-1)%2 ^ 64=2 ^ k-1:=Nat.mod_eq_of_lt (by omega);rw [e1,Nat.and_two_pow_sub_one_eq_mod];have e2:((BitVec.ofInt 64 a).toNat:Int)=a%18446744073709551616:=by
  rw [BitVec.toNat_ofInt];have:(0:Int)≤a%((2 ^ 64:Nat):Int):=Int.emod_nonneg _ (by decide);omega
 have hdvd:((2 ^ k:Nat):Int) ∣ 18446744073709551616:=by
  refine ⟨((2 ^ (64-k):Nat):Int),?_⟩;rw [← Int.natCast_mul, ←Nat.pow_add,show k+(64-k)=64 by omega];rfl
 have e3:(((BitVec.ofInt 64 a).toNat%2 ^ k:Nat):Int)=a%((2 ^ k:Nat):Int):=by
  rw [Int.natCast_emod,e2,Int.emod_emod_of_dvd _ hdvd]
 rw [e3,IntKind.wrap_i64];have h4:=Int.emod_nonneg a (show ((2 ^ k:Nat):Int)≠0 by omega);have h5:=Int.emod_lt_of_pos a (show (0:Int)<((2 ^ k:Nat):Int) by omega);omega
theorem and3 (a:Int):bits .and .i64 a 3=a%4:=and_mask 2 a (by omega)
theorem and15 (a:Int):bits .and .i64 a 15=a%16:=and_mask 4 a (by omega)
theorem tdiv_neg' (a b:Int) (h:a<0) (hb:0<b) (hr:a%b≠0):a.tdiv b=a/b+1:=by
 rw [Int.tdiv_eq_ediv,if_neg,Int.sign_eq_one_of_pos hb];rintro (h'|h')
 ·omega
 ·exact hr (Int.emod_eq_zero_of_dvd h')
theorem tmod_neg' (a b:Int) (h:a<0) (hb:0<b) (hr:a%b≠0):a.tmod b=a%b-b:=by
 rw [Int.tmod_eq_emod,if_neg]
 ·omega
 rintro (h'|h')
 ·omega
 ·exact hr (Int.emod_eq_zero_of_dvd h')
theorem tdiv_ex (a b:Int) (hr:a%b=0):a.tdiv b=a/b:=by
 rw [Int.tdiv_eq_ediv,if_pos (Or.inr (Int.dvd_of_emod_eq_zero hr))];omega
theorem tmod_ex (a b:Int) (hr:a%b=0):a.tmod b=0:=by
 rw [Int.tmod_eq_emod,if_pos (Or.inr (Int.dvd_of_emod_eq_zero hr))];omega
end Pl
end
section
open Go.RowKit NB
namespace Txt
theorem info_u8:(prog.info? 5).map (fun i=>(i.zero,i.size,i.bytes))=some (some (.int .u8 0),1,1):=by kernel_rfl
def farI (n:Int):Int:=if n<0 then -n else n
theorem far (n:Int) (h0: -9223372036854775808≤n) (h1:n≤9223372036854775807) (w:World):Calls prog 301 #[.int .i64 n] w fun e w'=>e=.returned (.int .u64 (farI n))∧w=w':=by
 unfold farI
 by_cases h:n<0
 ·rw [if_pos h];go_enter func301,ntmps301;go_wp2;go_ret;refine ⟨ret_int ?_,rfl⟩;rw [IntKind.wrap_u64,IntKind.wrap_u64];omega
 ·rw [if_neg h];go_enter func301,ntmps301;go_wp2;go_ret;exact ⟨rfl,rfl⟩
def SomeStr (w:World) (e:Ending) (w':World):Prop:=∃ r:ByteArray,e=.returned (.string r)∧Below w.heap.size w w'
def Fitp (p n:Nat):Prop:=p*10 ^ n≤10 ^ 22
theorem Fitp.start {p m:Nat} (h:p≤9223372036854775808) (hm:m≤1):Fitp p m:=by
 unfold Fitp;have h1:10 ^ m≤10 ^ 1:=Nat.pow_le_pow_right (by omega) hm;exact Nat.le_trans (Nat.mul_le_mul h h1) (by decide)
theorem Fitp.len {p n:Nat} (h:Fitp p n) (hp:1≤p):n≤22:=by
 unfold Fitp at h;have h2:10 ^ n≤10 ^ 22:=Nat.le_trans (Nat.le_mul_of_pos_left _ hp) h;exact (Nat.pow_le_pow_iff_right (by omega)).1 h2
theorem Fitp.next {p n:Nat} (h:Fitp p n):Fitp (p/10) (n+1):=by
 unfold Fitp at *;rw [Nat.pow_succ];have h1:p/10*10≤p:=Nat.div_mul_le_self p 10
 calc p/10*(10 ^ n*10)=(p/10*10)*10 ^ n:=by rw [Nat.mul_comm (10 ^ n) 10,Nat.mul_assoc]
  _≤p*10 ^ n:=Nat.mul_le_mul_right _ h1
  _≤10 ^ 22:=h
def Bytes (xs:List Value):Prop:=∀ x∈xs,∃ c:UInt8,x=.int .u8 (c.toNat:Int)
theorem Bytes.list:∀ {xs:List Value},Bytes xs→∃ l:List UInt8,xs=l.map fun c=>Value.int .u8 (c.toNat:Int)
 | [],_=>⟨[],rfl⟩
 |x :: xs,h=>by
  obtain ⟨c,rfl⟩:=h x (by simp);obtain ⟨l,rfl⟩:=Bytes.list (xs:=xs) (fun y hy=>h y (by simp [hy]));exact ⟨c :: l,rfl⟩
theorem Bytes.snoc {xs:List Value} (h:Bytes xs) (d:Int) (h0:0≤d) (h1:d≤255):Bytes (xs++[.int .u8 d]):=by
 intro x hx;rcases List.mem_append.1 hx with hx|hx
 ·exact h x hx
 ·simp only [List.mem_singleton] at hx;subst hx;refine ⟨UInt8.ofNat d.toNat,?_⟩;rw [UInt8.toNat_ofNat_of_lt' (by show d.toNat<256;omega)]
  congr 1;omega
theorem str_of_own {w:World} {B m:Nat} {v:Value} {xs:List Value} (h:w.ownsRow B 5 1 v m xs) (hb:Bytes xs):
 ∃ r,(convert 256 9 v).run prog w=.ok (.string r) w:=by
 obtain ⟨l,rfl⟩:=hb.list;have hlen:=h.1;simp only [List.length_map,Nat.mul_one] at hlen;rcases h.2 with ⟨hv,_⟩|⟨g,cap,cur,hv,hg,hh,hle,hcap,hcs,htk⟩
 ·subst hv;exact ⟨⟨#[]⟩,by kernel_rfl⟩
 ·subst hv;subst hlen;refine ⟨_,run_convert_bytes_back w 256 9 5 ⟨g,0,none⟩ cap l underlying256 underlying5 underlying9 (fun j hj=> ?_)⟩;have:=h.cells (g:=g) rfl j (.int .u8 (l[j].toNat:Int)) (by rw [List.getElem?_map,List.getElem?_eq_getElem hj];rfl);exact this
set_option maxHeartbeats 1600000 in
set_option maxRecDepth 100000 in
theorem Text (n:Int) (h0: -9223372036854775808≤n) (h1:n≤9223372036854775807) (w:World):Calls prog 278 #[.int .i64 n] w (SomeStr w):=by
 obtain ⟨i0,hi,hz0,hz1,hz2⟩:=info_parts info_u8;obtain ⟨u,hu⟩:=Int.eq_ofNat_of_zero_le (a:=farI n) (by unfold farI;split<;>omega);have hu2:(u:Int)≤9223372036854775808:=by rw [← hu];unfold farI;split<;>omega
 have hu3:u≤9223372036854775808:=by omega
 have HU:=Lib.hid hu;clear hu
 by_cases hneg:n<0
 all_goals
  go_enter func278,ntmps278
  go_wp2_with (first
   |(at_make;refine wpList_make_own _ rfl _ _ 256 rfl w.heap.size 5 i0 (.int .u8 0) 1 underlying256 hi hz0 hz1 _ _ _ 20 rfl rfl rfl (by rw [hz2];decide) (by decide) (Nat.le_refl _) ?_;intro w1 hown hg1)
   |(at_builtin;refine wpList_append_own _ rfl _ _ 256 rfl w.heap.size 5 i0 (.int .u8 0) 1 1 underlying256 hi hz0 hz1 hz2 rfl (by decide) _ _ _ rfl (hown.alloc _) ⟨w1.heap.size,0,none⟩ 1 1 [.int .u8 45] rfl rfl (cell_one_new _ _ _) (by intro u hu;simp at hu;subst hu;rfl) (by decide) (by decide) (by have:=hg1.size;simp;omega) ?_;intro v2 w2 hown2 hg2 _)
   |(go_at_call 301;refine (far _ (by omega) (by omega) _).mono ?_;rw [HU.out];rintro e w' ⟨rfl,rfl⟩))
  go_loop [5] (fun x=>∃ p:Nat,x=.int .u64 p∧1≤p∧(p=1∨p≤u)) (fun x=>u+1-(intOf x).toNat)
  case atStart=>exact ⟨1,rfl,by omega,.inl rfl⟩
  case round=>
   obtain ⟨p,rfl,hp1,hpu⟩:=hrel;have hq0:(0:Int)≤(u:Int)/(p:Int):=Int.ediv_nonneg (by omega) (by omega);have hq1:(u:Int)/(p:Int)≤u:=Int.ediv_le_self _ (by omega);have hp18:(p:Int)≤9223372036854775808:=by omega
   have hpz:((p:Int)==0)=false:=by simp;omega
   by_cases hge:10≤u/p
   ·have hge':(10:Int)≤(u:Int)/(p:Int):=by exact_mod_cast hge
    have hmul:10*p≤u:=by
     have:=(Nat.le_div_iff_mul_le (show 0<p by omega)).1 hge;exact this
    go_wp2;go_round
    case rel=>exact ⟨p*10,by go_num,by omega,by omega⟩
    case measure=>simp [intOf];omega
   ·have hlt':(u:Int)/(p:Int)<10:=by
     have:u/p<10:=by omega
     exact_mod_cast this
    go_wp2
    go_loopw [3,5] (fun b x wr=>∃ (q m:Nat) (xs:List Value),x=.int .u64 q∧q≤9223372036854775808∧wr.ownsRow w.heap.size 5 1 b m xs∧Bytes xs∧Fitp q m∧Below w.heap.size w wr) (fun _ x _=>(intOf x).toNat)
    case atStart=>
     first
      |exact ⟨p,0+1,_,rfl,by omega,hown2,by intro x hx;simp at hx;exact ⟨45,hx⟩,Fitp.start (by omega) (by omega),(((Below.refl _ _).grown hg1 (Nat.le_refl _) (fun _ h=>by cases h)).alloc hg1.size _).grown hg2 (by have:=hg1.size;simp;omega) (fun k hk=>(hown.lt k hk).1)⟩
      |exact ⟨p,0,_,rfl,by omega,hown,by intro x hx;simp at hx,Fitp.start (by omega) (by omega),(Below.refl _ _).grown hg1 (Nat.le_refl _) (fun _ h=>by cases h)⟩
    case round=>
     obtain ⟨q,m,xs,rfl,hq,hO,hX,hF,hBl⟩:=hrel;have hBs:=hBl.size
     by_cases hz:q=0
     ·subst hz;obtain ⟨r,hr⟩:=str_of_own hO hX;clear hO hX;go_wp2;go_ret;exact ⟨r,rfl,hBl⟩
     ·have hq1':0<q:=by omega
      have hm:=hF.len hq1';have a0:(0:Int)≤(u:Int)/(q:Int):=Int.ediv_nonneg (by omega) (by omega);have a1:(u:Int)/(q:Int)≤u:=Int.ediv_le_self _ (by omega);have b0:0≤(u:Int)/(q:Int)%10:=by omega
      have b1:(u:Int)/(q:Int)%10≤9:=by omega
      have hqz:((q:Int)==0)=false:=by simp;omega
      have HX:=Lib.hid (hX.snoc (48+(u:Int)/(q:Int)%10) (by omega) (by omega));have HF:=Lib.hid hF.next;clear hX hF
      go_wp2_with (at_builtin;refine wpList_append_own _ rfl _ _ 256 rfl w.heap.size 5 i0 (.int .u8 0) 1 1 underlying256 hi hz0 hz1 hz2 rfl (by decide) _ _ _ rfl (hO.alloc _) ⟨wr.heap.size,0,none⟩ 1 1 [.int .u8 (48+(u:Int)/(q:Int)%10)] rfl rfl (cell_one_new _ _ _) (by intro u hu;simp at hu;subst hu;rfl) (by unfold maxLen;omega) (by omega) (by simp;omega) ?_;intro v3 w3 hown3 hg3 _)
      go_roundw
      case rel=>exact ⟨q/10,m+1,_,by go_num,by omega,hown3,HX.out,HF.out,(hBl.alloc hBl.size _).grown hg3 (by simp;omega) (fun k hk=>(hO.lt k hk).1)⟩
      case measure=>simp [intOf];omega
end Txt
end
end Go.Proofs.YtgmfojgnjdpofaaGreatDoor
