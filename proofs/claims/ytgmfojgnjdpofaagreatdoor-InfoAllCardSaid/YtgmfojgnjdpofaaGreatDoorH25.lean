import Derived.Deep.RegionHeld3
import Derived.Test.YtgmfojgnjdpofaaGreatDoorH1
import Derived.Laws.CopyRow
import Derived.Laws.CopyOwn
import Derived.Lib.AppendZerosOnto
import Derived.Deep.AppendLies
import Derived.Laws.OwnMore
import Derived.Lib.Overlaps
import Derived.Laws.Externs
import Derived.Test.YtgmfojgnjdpofaaGreatDoorH15
import Derived.Test.YtgmfojgnjdpofaaGreatDoorH18
import Derived.Test.YtgmfojgnjdpofaaGreatDoorH24
import Derived.OrdersHeld
namespace Go.Proofs.YtgmfojgnjdpofaaGreatDoor
open Go.Proofs.Tryz
section
open Go
section
variable {P:Program} {ops:Array Oper} {Q:Exit→Act→World→Prop} {md:Region.Mode} {S:World→Prop} {m:Nat}
def wpAnyM (P:Program) (md:Region.Mode) (ops:Array Oper) (Q:Exit→Act→World→Prop) (S:World→Prop) (m:Nat):Nat→Array Bool→Act→World→Prop
 |0,listed,a,w=>Region.ready md ops listed=[]∧Q .normal a w
 |fuel+1,listed,a,w=>
  (Region.ready md ops listed=[]→Q .normal a w)∧
  ∀ i∈Region.ready md ops listed,wpOp P ops Q i (fun a' w'=>(i=m∨S w')∧wpAnyM P md ops Q S m fuel (listed.setIfInBounds i true) a' w') a w
theorem wpAny_of_heldM:∀ (fuel:Nat) (listed:Array Bool) (a:Act) (w:World),wpAnyM P md ops Q S m fuel listed a w→wpAny P md ops Q fuel listed a w
 |0,_,_,_,h=>h
 |fuel+1,_,_,_,h=>⟨h.1,fun i hi=>wpOp_mono (fun a' w' h'=>wpAny_of_heldM fuel _ a' w' h'.2) (h.2 i hi)⟩
def waits (md:Region.Mode) (ops:Array Oper) (k i:Nat):Bool:=
 match ops[k]? with
 |some o=>o.after.any fun e=>Region.binds md e&&(e.on==i)
 |none=>false
def climb (md:Region.Mode) (ops:Array Oper):Nat→List Nat→Nat→Bool
 |k,[],i=>waits md ops k i
 |k,j :: js,i=>waits md ops k j&&climb md ops j js i
def Closed (md:Region.Mode) (ops:Array Oper) (listed:Array Bool):Prop:=
 ∀ k o,ops[k]? =some o→listed.getD k false=true→∀ e∈o.after,Region.binds md e=true→listed.getD e.on false=true
def closedB (md:Region.Mode) (ops:Array Oper) (listed:Array Bool):Bool:=
 (List.range ops.size).all fun k=> !listed.getD k false||(match ops[k]? with
   |some o=>o.after.all fun e=> !Region.binds md e||listed.getD e.on false
   |none=>true)
theorem closed_spec {listed:Array Bool} (h:closedB md ops listed=true):Closed md ops listed:=by
 intro k o ho hl e he hb;unfold closedB at h;rw [List.all_eq_true] at h;have hk:=h k (by rw [List.mem_range];exact (Array.getElem?_eq_some_iff.1 ho).1);rw [ho,hl] at hk;simp only [Bool.not_true,Bool.false_or,Array.all_eq_true_iff_forall_mem] at hk;have h2:=hk e he;rw [hb] at h2
 simpa using h2
theorem waits_spec {k i:Nat} (h:waits md ops k i=true):∃ o,ops[k]? =some o∧∃ e,e∈o.after∧Region.binds md e=true∧e.on=i:=by
 unfold waits at h;cases ho:ops[k]? with
 |none=>rw [ho] at h;cases h
 |some o=>
  rw [ho] at h;simp only [Array.any_eq_true',Bool.and_eq_true,beq_iff_eq] at h;obtain ⟨e,he,hb,hi⟩:=h;exact ⟨o,rfl,e,he,hb,hi⟩
theorem climb_listed {listed:Array Bool} (hc:Closed md ops listed):∀ (js:List Nat) (k i:Nat),climb md ops k js i=true→listed.getD k false=true→listed.getD i false=true
 | [],k,i,h,hk=>by
   obtain ⟨o,ho,e,he,hb,rfl⟩:=waits_spec h;exact hc k o ho hk e he hb
 |j :: js,k,i,h,hk=>by
  unfold climb at h;rw [Bool.and_eq_true] at h;obtain ⟨o,ho,e,he,hb,rfl⟩:=waits_spec h.1;exact climb_listed hc js e.on i h.2 (hc k o ho hk e he hb)
theorem climb_ready {listed:Array Bool} (hc:Closed md ops listed) {js:List Nat} {k i:Nat} (h:climb md ops k js i=true) (hk:k∈Region.ready md ops listed):listed.getD i false=true:=by
 obtain ⟨_,o,ho,hall⟩:=mem_ready.1 hk;cases js with
 |nil=>
  obtain ⟨o',ho',e,he,hb,rfl⟩:=waits_spec h;rw [ho] at ho';cases ho';exact hall e he hb
 |cons j js=>
  unfold climb at h;rw [Bool.and_eq_true] at h;obtain ⟨o',ho',e,he,hb,rfl⟩:=waits_spec h.1;rw [ho] at ho';cases ho';exact climb_listed hc js e.on i h.2 (hall e he hb)
theorem closed_set {listed:Array Bool} {j:Nat} (hc:Closed md ops listed) (hj:j∈Region.ready md ops listed):Closed md ops (listed.setIfInBounds j true):=by
 intro k o ho hl e he hb
 by_cases hkj:j=k
 ·subst hkj;obtain ⟨_,o',ho',hall⟩:=mem_ready.1 hj;rw [ho] at ho';cases ho';exact getD_set_true (hall e he hb)
 ·rw [getD_set_ne false hkj] at hl;exact getD_set_true (hc k o ho hl e he hb)
theorem wpAnyM_first {i:Nat} {oi:Oper} {v:Value} (hi:ops[i]? =some oi) (hsel:∀ (j:Nat) (o:Oper) cs b,ops[j]? =some o→o.op≠.select cs b)
 (hQ:∀ c a w,Q (.panic c) (a.put oi.dst v) w→Q (.panic c) a w) {js:List Nat} (hm:climb md ops m js i=true):
 ∀ (fuel:Nat) (listed:Array Bool) (a:Act) (w:World),
   (∀ j oj,ops[j]? =some oj→j≠i→listed.getD j true=false→(∀ e∈oj.after,Region.binds md e=true→e.on≠i)→oi.apart ops oj=true)→
   Closed md ops listed→i∈Region.ready md ops listed→YieldsIf P ops S oi v a→S w→
   wpAnyM P md ops Q S m fuel (listed.setIfInBounds i true) (a.put oi.dst v) w→wpAnyM P md ops Q S m (fuel+1) listed a w:=by
 intro fuel
 induction fuel with
 |zero=>
  intro listed a w _ _ hr hy hS H;refine ⟨fun h=>(by rw [h] at hr;cases hr),fun j hj=> ?_⟩
  by_cases hji:j=i
  ·subst hji;exact hy.wpOp hi hS ⟨.inr hS,H⟩
  ·have:=ready_mono hj hji;rw [H.1] at this;cases this
 |succ fuel ih=>
  intro listed a w hfree hcl hr hy hS H;refine ⟨fun h=>(by rw [h] at hr;cases hr),fun j hj=> ?_⟩
  by_cases hji:j=i
  ·subst hji;exact hy.wpOp hi hS ⟨.inr hS,H⟩
  ·have h1:=H.2 j (ready_mono hj hji);obtain ⟨hjun,oj,hoj,hall⟩:=mem_ready.1 hj;have hnot:∀ e∈oj.after,Region.binds md e=true→e.on≠i:=fun e he hb heq=>by
    have h1:=hall e he hb;have h0:=(mem_ready.1 hr).1;rw [heq] at h1;rcases Nat.lt_or_ge i listed.size with h'|h'
    ·simp [h'] at h0 h1;rw [h0] at h1;cases h1
    ·simp [Array.getElem?_eq_none h'] at h1
   have hjm:j≠m:=fun hjm=>by
    subst hjm;have h1:=climb_ready hcl hm hj;have h0:=(mem_ready.1 hr).1;rcases Nat.lt_or_ge i listed.size with h'|h'
    ·simp [h'] at h0 h1;rw [h0] at h1;cases h1
    ·simp [Array.getElem?_eq_none h'] at h1
   have h2:=wpOp_putIf hoj (hfree j oj hoj hji hjun hnot) (fun cs b=>hsel i oi cs b hi) (fun cs b=>hsel j oj cs b hoj) hQ hy h1;have hfree':∀ k ok,ops[k]? =some ok→k≠i→(listed.setIfInBounds j true).getD k true=false→
    (∀ e∈ok.after,Region.binds md e=true→e.on≠i)→oi.apart ops ok=true:=fun k ok hk hki hun hno=>by
    refine hfree k ok hk hki ?_ hno
    by_cases hjk:j=k
    ·subst hjk;exact hjun
    ·rw [getD_set_ne true hjk] at hun;exact hun
   refine wpOp_mono (fun a' w' h3=> ?_) h2;have s3:S w':=h3.2.1.resolve_left hjm;refine ⟨.inr s3,ih (listed.setIfInBounds j true) a' w' hfree' (closed_set hcl hj) (ready_mono hr (Ne.symm hji)) h3.1 s3 ?_⟩;rw [Array.setIfInBounds_comm _ _ hji];exact h3.2.2
theorem wpAnyM_take {i:Nat} {oi:Oper} {v:Value} {fuel:Nat} {listed:Array Bool} {a:Act} {w:World} (hi:ops[i]? =some oi)
 (hs:Region.noSelect ops=true) (hf:Region.free md ops listed i=true) (hr:(Region.ready md ops listed).contains i=true) (js:List Nat) (hm:climb md ops m js i=true) (hc:closedB md ops listed=true)
 (hQ:∀ c a w,Q (.panic c) (a.put oi.dst v) w→Q (.panic c) a w) (hy:YieldsIf P ops S oi v a) (hS:S w)
 (h:wpAnyM P md ops Q S m fuel (listed.setIfInBounds i true) (a.put oi.dst v) w):wpAnyM P md ops Q S m (fuel+1) listed a w:=
 wpAnyM_first hi (Region.noSelect_spec hs) hQ hm fuel listed a w (Region.free_spec hi hf) (closed_spec hc) (by simpa using hr) hy hS h
theorem wpAnyM_all {rs:List Nat} {fuel:Nat} {listed:Array Bool} {a:Act} {w:World} (hr:Region.ready md ops listed=rs) (hne:rs≠[])
 (h:∀ i∈rs,wpOp P ops Q i (fun a' w'=>(i=m∨S w')∧wpAnyM P md ops Q S m fuel (listed.setIfInBounds i true) a' w') a w):wpAnyM P md ops Q S m (fuel+1) listed a w:=
 ⟨fun h0=>absurd (hr ▸ h0) hne,hr ▸ h⟩
theorem wpAnyM_done {listed:Array Bool} {a:Act} {w:World} (hr:Region.ready md ops listed=[]) (h:Q .normal a w):
 ∀ fuel,wpAnyM P md ops Q S m fuel listed a w
 |0=>⟨hr,h⟩
 |_+1=>⟨fun _=>h,by rw [hr];simp⟩
theorem wp_region_heldM {id:Nat} {a:Act} {w:World} (S:World→Prop) (m:Nat) (hm:P.follows .mixedOrders=true) (hS:S w.drew)
 (h:∀ W,W=w.drew→S W→wpAnyM P .any ops Q S m ops.size (Array.replicate ops.size false) a W):(Code.region id ops true).wp P Q a w:=
 wp_region_any hm (wpAny_of_heldM _ _ _ _ (h w.drew rfl hS))
end
end
section
open Go.RowKit NB
namespace OW
variable {P:Program}
theorem step_append_at {w:World} {ops:Array Oper} {o:Oper} {a:Act} {K:Act→World→Prop} {Q:Exit→Act→World→Prop} {E:Prop} (hgd:o.guard=none) (s x:Operand) (t:TypeId)
 (ho:o.op=.call { callee:=.builtin .append,args:=#[s,x],argTypes:=#[t,t]})
 (base:Nat) (e:TypeId) (i:TypeInfo) (z:Value) (size bytes:Nat) (ht:P.underlying t=some (.slice e)) (hi:P.info? e=some i) (hz:i.zero=some z)
 (hsize:i.size=size) (hby:i.bytes=bytes) (hzs:z.cells.size=size) (hsz:0<size)
 (v:Value) (n:Nat) (xs:List Value) (hs:a.eval s=v) (hown:w.ownsRow base e size v n xs)
 (ad:Addr) (m c:Nat) (news:List Value) (hx:a.eval x=.slice (some ad) m c) (hl:news.length=m*size) (hnews:∀ j u,news[j]? =some u→w.cell? (ad.add j)=some u) (h1:∀ u∈news,u.oneCell'=true)
 (h63:n+m≤maxLen) (hbytes:(n+m)*bytes≤140737488355328) (hbase:base≤w.heap.size)
 (h:∀ p cap w',w'.ownsRow base e size (.slice p (n+m) cap) (n+m) (xs++news)→w.grownBy w' v.ownBlock→((Value.slice p (n+m) cap).ownBlock=v.ownBlock∨(Value.slice p (n+m) cap).ownBlock=some w.heap.size)→K (a.put o.dst (.slice p (n+m) cap)) w'):
 if Region.wanted o (yielded ops a.tmps)=true then Oper.wp P o a w K Q else E:=by
 have hw:Region.wanted o (yielded ops a.tmps)=true:=by simp [Region.wanted,hgd]
 rw [if_pos hw];obtain ⟨v',w',hr,h2,h3,_,h5⟩:=run_append_own_at (P:=P) w base t o.type e i z size bytes ht hi hz hsize hby hzs hsz v n xs hown ad m c news hl hnews h1 h63 hbytes hbase;obtain ⟨p,cap,rfl⟩:∃ p cap,v'=.slice p (n+m) cap:=by
  rcases h2.2 with ⟨rfl,e⟩|⟨g,cap,cur,rfl,_⟩
  ·exact ⟨none,0,by rw [e]⟩
  ·exact ⟨_,_,rfl⟩
 unfold Oper.wp execOp;simp only [ho,resolve,invoke,builtin,Sem.run_bind,Sem.run_pure,Result.andThen_ok,List.map_toArray,List.map_cons,List.map_nil,hs,hx,hr];exact h p cap w' h2 h3 h5
end OW
end
section
open Go.RowKit NB
abbrev OwnI (w:World) (base:Nat) (v:Value) (l:List Int):Prop:=w.ownsRow base 3 1 v l.length (l.flatMap intC)
abbrev HoldsI (w:World) (v:Value) (l:List Int):Prop:=HoldsG 1 intC w v l
theorem HoldsI.of_own {w:World} {base:Nat} {v:Value} {l:List Int} (h:OwnI w base v l):HoldsI w v l:=HoldsG.of_own (k:=1) (f:=intC) (fun _=>rfl) h
theorem HoldsG.pkI {w:World} {v:Value} {l:List Int} (h:HoldsG 1 intC w v l):∃ p cap,v=.slice p l.length cap∧∀ (i:Nat) (n:Int),l[i]? =some n→∃ b off,p=some ⟨b,off,none⟩∧b<w.heap.size∧w.cell? ⟨b,off+i,none⟩=some (.int .i64 n):=by
 obtain ⟨p,cap,e,hp⟩:=h.pk;refine ⟨p,cap,e,fun i s hs=> ?_⟩;obtain ⟨b,off,e1,hb,hc⟩:=hp i s hs;have:=hc 0 _ rfl;simp only [Nat.mul_one,Nat.add_zero] at this;exact ⟨b,off,e1,hb,this⟩
theorem infoI:(prog.info? 3).map (fun i=>(i.zero,i.size,i.bytes))=some (some (.int .i64 0),1,8):=by kernel_rfl
namespace IntS
theorem ints_one (l:List Int):∀ u∈l.flatMap intC,u.oneCell'=true:=flatG_one (fun x u hu=>by unfold intC at hu;simp at hu;rw [hu];rfl) l
theorem ints_len (l:List Int):(l.flatMap intC).length=l.length*1:=flatG_len (k:=1) (fun _=>rfl) l
theorem own_mk {w:World} {base:Nat} {v:Value} {L M:List Int} (h:w.ownsRow base 3 1 v (L.length+M.length) (L.flatMap intC++M.flatMap intC)):OwnI w base v (L++M):=by
 unfold OwnI;rw [List.length_append,List.flatMap_append];exact h
theorem append {w:World} {base:Nat} {v x:Value} {L M:List Int} (ho:OwnI w base v L) (hx:HoldsI w x M) (hl:L.length+M.length≤1000000) (hb:base≤w.heap.size) (ty:TypeId):
 ∃ v' w',(Builtin.append_ #[199,199] ty #[v,x]).run prog w=.ok v' w'∧OwnI w' base v' (L++M)∧w.grownBy w' v.ownBlock∧(v'.ownBlock=v.ownBlock∨v'.ownBlock=some w.heap.size):=by
 obtain ⟨i0,hi,hz0,hz1,hz2⟩:=info_parts infoI;have big:L.length+M.length≤maxLen:=by unfold maxLen;omega
 rcases hx.lies with ⟨p,cap,rfl,rfl⟩|⟨b,off,cap,rfl,hlt,hc⟩
 ·cases p with
  |none=>
   refine ⟨v,w,?_,by rw [List.append_nil];exact ho,World.grownBy.refl _ _,.inl rfl⟩;rcases ho.2 with ⟨rfl,_⟩|⟨g,c,cur,rfl,_,_,hnc,_⟩
   ·simp [Builtin.append_,run_underlying underlying199,sizeOf,typeInfo,hi,Builtin.lenOf,Builtin.firstCells]
   ·simp [Builtin.append_,run_underlying underlying199,sizeOf,typeInfo,hi,Builtin.lenOf,Builtin.firstCells,hnc,storeCells]
  |some ad=>
   obtain ⟨v',w',hr,h2,h3,_,h5⟩:=run_append_own_at (P:=prog) w base 199 ty 3 i0 _ 1 8 underlying199 hi hz0 hz1 hz2 rfl (by decide) v L.length (L.flatMap intC) ho ad 0 cap [] rfl (by simp) (by simp) (by simpa using big) (by simp at hl;omega) hb;exact ⟨v',w',hr,own_mk (M:=[]) (by simpa using h2),h3,h5⟩
 ·obtain ⟨v',w',hr,h2,h3,_,h5⟩:=run_append_own_at (P:=prog) w base 199 ty 3 i0 _ 1 8 underlying199 hi hz0 hz1 hz2 rfl (by decide) v L.length (L.flatMap intC) ho ⟨b,off,none⟩ M.length cap (M.flatMap intC) (ints_len M) (fun j u hu=>by
   have hj:j<M.length:=by have:=(List.getElem?_eq_some_iff.1 hu).1;rw [ints_len] at this;omega
   have he:(⟨b,off,none⟩:Addr).add j=⟨b,off+j,none⟩:=by unfold Addr.add;split<;>simp_all
   rw [he];have hm:(M.map intC)[j]? =some (intC M[j]):=by rw [List.getElem?_map,List.getElem?_eq_getElem hj];rfl
   have h0:=hc j 0 (intC M[j]) (.int .i64 M[j]) hm rfl;have h6:=flatG_at (k:=1) (f:=intC) (fun _=>rfl) M j 0 M[j] (.int .i64 M[j]) (List.getElem?_eq_getElem hj) rfl;simp only [Nat.mul_one,Nat.add_zero] at h0 h6;rw [h6] at hu;cases hu;exact h0) (ints_one M) big (by omega) hb
  exact ⟨v',w',hr,own_mk h2,h3,h5⟩
theorem wpList_app {w:World} {ops:Array Oper} {rest:List Oper} {o:Oper} {a:Act} {Q:Exit→Act→World→Prop} (hgd:o.guard=none) (s x:Operand)
 (ho:o.op=.call { callee:=.builtin .append,args:=#[s,x],argTypes:=#[199,199]}) {base:Nat} {v xv:Value} {L M:List Int} (hs:a.eval s=v) (hown:OwnI w base v L) (hx:a.eval x=xv) (hM:HoldsI w xv M)
 (hl:L.length+M.length≤1000000) (hb:base≤w.heap.size)
 (h:∀ v' w',OwnI w' base v' (L++M)→w.grownBy w' v.ownBlock→(v'.ownBlock=v.ownBlock∨v'.ownBlock=some w.heap.size)→wpList prog ops Q rest (a.put o.dst v') w'):wpList prog ops Q (o :: rest) a w:=by
 refine wpList_plain hgd fun K hK=> ?_;obtain ⟨v',w',hr,h2,h3,h4⟩:=append hown hM hl hb o.type;unfold Oper.wp execOp;simp only [ho,resolve,invoke,builtin,Sem.run_bind,Sem.run_pure,Result.andThen_ok,List.map_toArray,List.map_cons,List.map_nil,hs,hx,hr];exact hK _ _ (h v' w' h2 h3 h4)
theorem step_app {w:World} {ops:Array Oper} {o:Oper} {a:Act} {K:Act→World→Prop} {Q:Exit→Act→World→Prop} {E:Prop} (hgd:o.guard=none) (s x:Operand)
 (ho:o.op=.call { callee:=.builtin .append,args:=#[s,x],argTypes:=#[199,199]}) {base:Nat} {v xv:Value} {L M:List Int} (hs:a.eval s=v) (hown:OwnI w base v L) (hx:a.eval x=xv) (hM:HoldsI w xv M)
 (hl:L.length+M.length≤1000000) (hb:base≤w.heap.size)
 (h:∀ v' w',OwnI w' base v' (L++M)→w.grownBy w' v.ownBlock→(v'.ownBlock=v.ownBlock∨v'.ownBlock=some w.heap.size)→K (a.put o.dst v') w'):
 if Region.wanted o (yielded ops a.tmps)=true then Oper.wp prog o a w K Q else E:=by
 have hw:Region.wanted o (yielded ops a.tmps)=true:=by simp [Region.wanted,hgd]
 rw [if_pos hw];obtain ⟨v',w',hr,h2,h3,h4⟩:=append hown hM hl hb o.type;unfold Oper.wp execOp;simp only [ho,resolve,invoke,builtin,Sem.run_bind,Sem.run_pure,Result.andThen_ok,List.map_toArray,List.map_cons,List.map_nil,hs,hx,hr];exact h v' w' h2 h3 h4
end IntS
end
section
open Go.RowKit NB
namespace RdR
open Rd
structure Fr (B p:Nat) (W U:World):Prop where
 os:U.os=W.os
 tape:U.tape=W.tape
 output:U.output=W.output
 size:W.heap.size≤U.heap.size
 block:∀ k,k<B→k≠p→U.heap[k]? =W.heap[k]?
theorem Fr.refl (B p:Nat) (W:World):Fr B p W W:=⟨rfl,rfl,rfl,Nat.le_refl _,fun _ _ _=>rfl⟩
theorem Fr.trans {B p:Nat} {W U V:World} (h:Fr B p W U) (h':Fr B p U V):Fr B p W V:=
 ⟨h'.os.trans h.os,h'.tape.trans h.tape,h'.output.trans h.output,Nat.le_trans h.size h'.size,fun k hk hp=>(h'.block k hk hp).trans (h.block k hk hp)⟩
theorem Fr.below {B p:Nat} {W U:World} (h:Below W.heap.size W U) (hB:B≤W.heap.size):Fr B p W U:=
 ⟨h.os,h.tape,h.output,h.size,fun k hk _=>h.block k (by omega)⟩
theorem Fr.grown {B p:Nat} {W U:World} {row:Option Nat} (h:W.grownBy U row) (hB:B≤W.heap.size) (hr:∀ r,row=some r→B≤r):Fr B p W U:=
 ⟨h.os,h.tape,h.output,h.size,fun k hk _=>h.block k (by omega) (fun e=>by have:=hr k e.symm;omega)⟩
theorem Fr.set {B p j:Nat} {W:World} {v:Value}:Fr B p W (W.setCell ⟨p,j,none⟩ v):=
 ⟨rfl,rfl,rfl,by simp [World.setCell],fun k _ hp=>Below.heap_setCell W ⟨p,j,none⟩ v k hp⟩
theorem Fr.drew {B p:Nat} {W:World}:Fr B p W W.drew:=⟨rfl,rfl,rfl,Nat.le_refl _,fun _ _ _=>rfl⟩
theorem own_ne {w:World} {B1 B2:Nat} {e1 e2:TypeId} {s1 s2:Nat} {v u:Value} {n m:Nat} {xs ys:List Value} (h:w.ownsRow B1 e1 s1 v n xs) (h2:w.ownsRow B2 e2 s2 u m ys) (he:e1≠e2):v.ownBlock=none∨v.ownBlock≠u.ownBlock:=by
 rcases h.2 with ⟨rfl,_⟩|⟨g,cap,cur,rfl,_,hg,_⟩
 ·exact .inl rfl
 ·refine .inr fun e=> ?_;rcases h2.2 with ⟨rfl,_⟩|⟨g',cap',cur',rfl,_,hg',_⟩
  ·cases e
  ·have e:some g=some g':=e;cases e;rw [hg] at hg';cases hg';exact he rfl
theorem own_later {w w':World} {B m:Nat} {e:TypeId} {sz:Nat} {v:Value} {xs:List Value} (h:w.ownsRow B e sz v m xs) (hb:Below w.heap.size w w'):w'.ownsRow B e sz v m xs:=
 h.kept (row:=none) ⟨hb.os,hb.tape,hb.output,hb.size,fun k hk _=>hb.block k hk⟩ (by cases v.ownBlock<;>simp)
theorem own_f {w:World} {base:Nat} {e:TypeId} {sz:Nat} {v:Value} {n:Nat} {xs:List Value} (h:w.ownsRow base e sz v n xs):∃ p c,v=.slice p n c:=by
 rcases h.2 with ⟨rfl,rfl⟩|⟨g,c,cur,rfl,_⟩
 ·exact ⟨_,_,rfl⟩
 ·exact ⟨_,_,rfl⟩
theorem news {W:World} {b:Nat} {cs:Array Value} {t:TypeId} (h:Box W b cs t):∀ j u,cs.toList[j]? =some u→W.cell? ((⟨b,0,none⟩:Addr).add j)=some u:=fun j u hu=>by
 have e:(⟨b,0,none⟩:Addr).add j=⟨b,j,none⟩:=by unfold Addr.add;split<;>simp_all
 rw [e,h.cell]
 simpa using hu
theorem ints_snoc (l:List Int) (n:Int):(l++[n]).flatMap intC=l.flatMap intC++[.int .i64 n]:=by simp [intC]
theorem infoRu:(prog.info? 57).map (fun i=>(i.zero,i.size,i.bytes))=some (some (.agg #[.string .empty,.int .i64 0,.int .i64 0,.int .i64 0,.int .i64 0,.int .i64 0,.int .i64 0,.int .i64 0,.int .i64 0,.int .i64 0,.string .empty]),11,104):=by kernel_rfl
abbrev nilV:Value:=.slice none 0 0
def P1 (W:World) (B p:Nat) (rs:List RuleV):Prop:=
 ∃ rv lv:Value,Box W p #[rv,nilV,nilV,lv,nilV,nilV,.int .i64 0] 244∧W.ownsRow B 57 11 rv rs.length (rs.flatMap RuleV.cells)∧W.ownsRow B 3 1 lv rs.length ((Ck.up 0 rs.length).flatMap intC)
set_option maxRecDepth 100000 in
set_option maxHeartbeats 6400000 in
theorem rule {W:World} {B p:Nat} {rs:List RuleV} (hP:P1 W B p rs) (hpB:p<B) (hBW:B≤W.heap.size) (hn:rs.length≤1000) (r:RuleV) (hfit:r.Fit) (hr:Rul.right r=true) {v:Value} (hv:HoldsS W v (fieldsR r)):
 Calls prog 258 #[.pointer (some ⟨p,0,none⟩),v,.int .i64 ((rs.length:Int)+1)] W fun e w'=>e=.returned (.int .i64 0)∧P1 w' B p (rs++[r])∧Fr B p W w':=by
 obtain ⟨rv,lv,hb,hO,hL⟩:=hP;have c1:=RRu.Read r hfit hr hv;obtain ⟨i1,hi1,hz0,hz1,hz2⟩:=info_parts infoRu;obtain ⟨i2,hi2,hy0,hy1,hy2⟩:=info_parts infoI;obtain ⟨q,c,rfl⟩:=own_f hO;obtain ⟨n,hnn⟩:∃ n,n=rs.length:=⟨_,rfl⟩;rw [← hnn] at hn hO hL hb ⊢;have HN:=kj hnn;have hrc:r.cells.length=11:=rfl;obtain ⟨name,fr,tt,month,kind,wk,d,sec,base,save,letter⟩:=r;unfold RuleV.cells at c1;obtain ⟨pv,cv,hv1,_⟩:=hv.pk1;rw [show (fieldsR ⟨name,fr,tt,month,kind,wk,d,sec,base,save,letter⟩).length=9 from rfl] at hv1;subst hv1;have C1:=kj c1;have HO:=kj hO;have HL:=kj hL;have cb:=hb.cell;have lb:=hb.lt;clear c1 hv hnn hfit hr hrc;go_enter func258,ntmps258
 go_upto_region 6 with (go_at_call 293;refine C1.out.mono ?_;rintro e w1 ⟨rfl,hb1⟩;have bp1:=hb.later hb1;have cp1:=bp1.cell;have lp1:=bp1.lt)
 obtain ⟨w2,hw2⟩:∃ V,V=w1.alloc (.cells #[.string name,.int .i64 fr,.int .i64 tt,.int .i64 month,.int .i64 kind,.int .i64 wk,.int .i64 d,.int .i64 sec,.int .i64 base,.int .i64 save,.string letter] 57):=⟨_,rfl⟩;obtain ⟨x,hx⟩:∃ x,x=w1.heap.size:=⟨_,rfl⟩;have bx2:Box w2 x #[.string name,.int .i64 fr,.int .i64 tt,.int .i64 month,.int .i64 kind,.int .i64 wk,.int .i64 d,.int .i64 sec,.int .i64 base,.int .i64 save,.string letter] 57:=by rw [hw2,hx];exact Box.new _ _ _
 have bp2:Box w2 p #[.slice q n c,nilV,nilV,lv,nilV,nilV,.int .i64 0] 244:=by rw [hw2];exact bp1.old
 have hbw2:Below W.heap.size W w2:=by rw [hw2];exact bcq
 have hxW:W.heap.size≤x:=by rw [hx];exact hb1.size
 have hO2:=kj (own_later HO.out hbw2);have hL2:=kj (own_later HL.out hbw2);rw [← hw2, ←hx];have hs2:=hbw2.size;clear hw2 hx hb1 bp1 cp1 lp1;have hS:∀ U,Below w2.heap.size w2 U→U.cell? ⟨p,0,none⟩=some (.slice q n c)∧U.cell? ⟨x,0,none⟩=some (.string name)∧U.cell? ⟨x,1,none⟩=some (.int .i64 fr)∧U.cell? ⟨x,2,none⟩=some (.int .i64 tt)∧U.cell? ⟨x,3,none⟩=some (.int .i64 month)∧U.cell? ⟨x,4,none⟩=some (.int .i64 kind)∧U.cell? ⟨x,5,none⟩=some (.int .i64 wk)∧U.cell? ⟨x,6,none⟩=some (.int .i64 d)∧U.cell? ⟨x,7,none⟩=some (.int .i64 sec)∧U.cell? ⟨x,8,none⟩=some (.int .i64 base)∧U.cell? ⟨x,9,none⟩=some (.int .i64 save)∧U.cell? ⟨x,10,none⟩=some (.string letter):=fun U hU=>⟨(bp2.later hU).cell 0,(bx2.later hU).cell 0,(bx2.later hU).cell 1,(bx2.later hU).cell 2,(bx2.later hU).cell 3,(bx2.later hU).cell 4,(bx2.later hU).cell 5,(bx2.later hU).cell 6,(bx2.later hU).cell 7,(bx2.later hU).cell 8,(bx2.later hU).cell 9,(bx2.later hU).cell 10⟩;refine wp_region_noPanic ?_;refine wp_region_heldM (fun U=>U.cell? ⟨p,0,none⟩=some (.slice q n c)∧U.cell? ⟨x,0,none⟩=some (.string name)∧U.cell? ⟨x,1,none⟩=some (.int .i64 fr)∧U.cell? ⟨x,2,none⟩=some (.int .i64 tt)∧U.cell? ⟨x,3,none⟩=some (.int .i64 month)∧U.cell? ⟨x,4,none⟩=some (.int .i64 kind)∧U.cell? ⟨x,5,none⟩=some (.int .i64 wk)∧U.cell? ⟨x,6,none⟩=some (.int .i64 d)∧U.cell? ⟨x,7,none⟩=some (.int .i64 sec)∧U.cell? ⟨x,8,none⟩=some (.int .i64 base)∧U.cell? ⟨x,9,none⟩=some (.int .i64 save)∧U.cell? ⟨x,10,none⟩=some (.string letter)) 12 (by kernel_rfl) (hS _ (Below.refl _ _).drew) ?_;intro U hU hSU;have hUb:Below w2.heap.size w2 U:=by rw [hU];exact (Below.refl _ _).drew
 clear hU
 (refine wpAnyM_take (i:=0) (v:= ?vk0) rfl (by kernel_rfl) (by kernel_rfl) (by kernel_rfl) [] (by kernel_rfl) (by kernel_rfl) (fun _ _ _ h=>h) (Or.inl ⟨by rfl,?yk0⟩) hSU ?rk0;(case yk0=>(intro w hSw;(try dsimp only at hSw);go_simp;(try with_reducible rfl)));(try simp only [Act.put,List.setIfInBounds_toArray]))
 (refine wpAnyM_take (i:=1) (v:= ?vk1) rfl (by kernel_rfl) (by kernel_rfl) (by kernel_rfl) [] (by kernel_rfl) (by kernel_rfl) (fun _ _ _ h=>h) (Or.inl ⟨by rfl,?yk1⟩) hSU ?rk1;(case yk1=>(intro w hSw;(try dsimp only at hSw);go_simp;(try with_reducible rfl)));(try simp only [Act.put]))
 (refine wpAnyM_take (i:=2) (v:= ?vk2) rfl (by kernel_rfl) (by kernel_rfl) (by kernel_rfl) [] (by kernel_rfl) (by kernel_rfl) (fun _ _ _ h=>h) (Or.inl ⟨by rfl,?yk2⟩) hSU ?rk2;(case yk2=>(intro w hSw;(try dsimp only at hSw);go_simp;(try with_reducible rfl)));(try simp only [Act.put]))
 (refine wpAnyM_take (i:=3) (v:= ?vk3) rfl (by kernel_rfl) (by kernel_rfl) (by kernel_rfl) [] (by kernel_rfl) (by kernel_rfl) (fun _ _ _ h=>h) (Or.inl ⟨by rfl,?yk3⟩) hSU ?rk3;(case yk3=>(intro w hSw;(try dsimp only at hSw);go_simp;(try with_reducible rfl)));(try simp only [Act.put]))
 (refine wpAnyM_take (i:=4) (v:= ?vk4) rfl (by kernel_rfl) (by kernel_rfl) (by kernel_rfl) [] (by kernel_rfl) (by kernel_rfl) (fun _ _ _ h=>h) (Or.inl ⟨by rfl,?yk4⟩) hSU ?rk4;(case yk4=>(intro w hSw;(try dsimp only at hSw);go_simp;(try with_reducible rfl)));(try simp only [Act.put]))
 (refine wpAnyM_take (i:=5) (v:= ?vk5) rfl (by kernel_rfl) (by kernel_rfl) (by kernel_rfl) [] (by kernel_rfl) (by kernel_rfl) (fun _ _ _ h=>h) (Or.inl ⟨by rfl,?yk5⟩) hSU ?rk5;(case yk5=>(intro w hSw;(try dsimp only at hSw);go_simp;(try with_reducible rfl)));(try simp only [Act.put]))
 (refine wpAnyM_take (i:=6) (v:= ?vk6) rfl (by kernel_rfl) (by kernel_rfl) (by kernel_rfl) [] (by kernel_rfl) (by kernel_rfl) (fun _ _ _ h=>h) (Or.inl ⟨by rfl,?yk6⟩) hSU ?rk6;(case yk6=>(intro w hSw;(try dsimp only at hSw);go_simp;(try with_reducible rfl)));(try simp only [Act.put]))
 (refine wpAnyM_all (rs:=[7]) (by kernel_rfl) (by simp) (List.forall_mem_cons.2 ⟨?_,(fun _ h=>by cases h)⟩);refine wpOp_step rfl (fun K hK=> ?_))
 go_simp;obtain ⟨U1,hU1e⟩:∃ V,V=U.alloc (.cells #[.string name,.int .i64 fr,.int .i64 tt,.int .i64 month,.int .i64 kind,.int .i64 wk,.int .i64 d,.int .i64 sec,.int .i64 base,.int .i64 save,.string letter] 57):=⟨_,rfl⟩;have hU1:Below w2.heap.size w2 U1:=by rw [hU1e];exact hUb.alloc hUb.size _
 have bsrc:Box U1 U.heap.size #[.string name,.int .i64 fr,.int .i64 tt,.int .i64 month,.int .i64 kind,.int .i64 wk,.int .i64 d,.int .i64 sec,.int .i64 base,.int .i64 save,.string letter] 57:=by rw [hU1e];exact Box.new _ _ _
 have hO1:U1.ownsRow B 57 11 (.slice q n c) n (rs.flatMap RuleV.cells):=own_later hO2.out hU1;rw [← hU1e];refine hK _ _ ⟨.inr (hS _ hU1),?_⟩;clear hK K hU1e
 (try simp only [Act.put,List.setIfInBounds_toArray,List.set_cons_zero,List.set_cons_succ])
 (refine wpAnyM_all (rs:=[8]) (by kernel_rfl) (by simp) (List.forall_mem_cons.2 ⟨?_,(fun _ h=>by cases h)⟩);refine wpOp_step rfl (fun K hK=> ?_))
 refine OW.step_append_at rfl (.tmp 33) (.tmp 35) 22 (by rfl) B 57 i1 _ 11 104 underlying22 hi1 hz0 hz1 hz2 rfl (by decide) (.slice q n c) n (rs.flatMap RuleV.cells) (by rfl) hO1 ⟨U.heap.size,0,none⟩ 1 1 #[.string name,.int .i64 fr,.int .i64 tt,.int .i64 month,.int .i64 kind,.int .i64 wk,.int .i64 d,.int .i64 sec,.int .i64 base,.int .i64 save,.string letter].toList (by rfl) rfl (news bsrc) (by intro u hu;simp only [List.mem_cons,List.not_mem_nil,or_false] at hu;rcases hu with rfl|rfl|rfl|rfl|rfl|rfl|rfl|rfl|rfl|rfl|rfl<;>rfl) (by unfold maxLen;omega) (by omega) (by have:=hU1.size;omega) ?_;intro q3 c3 U3 ho3 hg3 _;have hrow:∀ g,(Value.slice q n c).ownBlock=some g→B≤g∧g<W.heap.size:=fun g hg=>HO.out.lt g hg;have bp3:Box U3 p #[.slice q n c,nilV,nilV,lv,nilV,nilV,.int .i64 0] 244:=(hg3.block p (bp2.later hU1).lt (fun e=>by have:=(hrow p e.symm).1;omega)).trans (bp2.later hU1);have bx3:Box U3 x #[.string name,.int .i64 fr,.int .i64 tt,.int .i64 month,.int .i64 kind,.int .i64 wk,.int .i64 d,.int .i64 sec,.int .i64 base,.int .i64 save,.string letter] 57:=(hg3.block x (bx2.later hU1).lt (fun e=>by have:=(hrow x e.symm).2;omega)).trans (bx2.later hU1);have hfr3:Fr B p W U3:=((Fr.below hbw2 hBW).trans (Fr.below hU1 (by omega))).trans (Fr.grown hg3 (by have:=hU1.size;omega) (fun g hg=>(hrow g hg).1));have hL3:U3.ownsRow B 3 1 lv n ((Ck.up 0 n).flatMap intC):=(own_later hL2.out hU1).kept hg3 (own_ne (own_later hL2.out hU1) hO1 (by decide));have hSU3:=And.intro (bp3.cell 0) (And.intro (bx3.cell 0) (And.intro (bx3.cell 1) (And.intro (bx3.cell 2) (And.intro (bx3.cell 3) (And.intro (bx3.cell 4) (And.intro (bx3.cell 5) (And.intro (bx3.cell 6) (And.intro (bx3.cell 7) (And.intro (bx3.cell 8) (And.intro (bx3.cell 9) (bx3.cell 10)))))))))));refine hK _ _ ⟨.inr hSU3,?_⟩;clear hK K
 (try simp only [Act.put,List.setIfInBounds_toArray])
 (refine wpAnyM_take (i:=9) (v:= ?vk9) rfl (by kernel_rfl) (by kernel_rfl) (by kernel_rfl) [11,10] (by kernel_rfl) (by kernel_rfl) (fun _ _ _ h=>h) (Or.inl ⟨by rfl,?yk9⟩) hSU3 ?rk9;(case yk9=>(intro w hSw;(try dsimp only at hSw);go_simp;(try with_reducible rfl)));(try simp only [Act.put]))
 (refine wpAnyM_take (i:=10) (v:= ?vk10) rfl (by kernel_rfl) (by kernel_rfl) (by kernel_rfl) [11] (by kernel_rfl) (by kernel_rfl) (fun _ _ _ h=>h) (Or.inl ⟨by rfl,?yk10⟩) hSU3 ?rk10;(case yk10=>(intro w hSw;(try dsimp only at hSw);go_simp;(try with_reducible rfl)));(try simp only [Act.put]))
 (refine wpAnyM_take (i:=11) (v:= ?vk11) rfl (by kernel_rfl) (by kernel_rfl) (by kernel_rfl) [] (by kernel_rfl) (by kernel_rfl) (fun _ _ _ h=>h) (Or.inl ⟨by rfl,?yk11⟩) hSU3 ?rk11;(case yk11=>(intro w hSw;(try dsimp only at hSw);go_simp;(try with_reducible rfl)));(try simp only [Act.put]))
 have cX:=bp3.cell;have fX:=bp3.free;have lX:=bp3.lt
 (refine wpAnyM_all (rs:=[12]) (by kernel_rfl) (by simp) (List.forall_mem_cons.2 ⟨?_,(fun _ h=>by cases h)⟩);refine wpOp_step rfl (fun K hK=> ?_))
 go_simp;refine hK _ _ ⟨.inl rfl,?_⟩;clear hK K;refine wpAnyM_done (by kernel_rfl) (NoPanic.normal ?_) _;obtain ⟨W4,hW4⟩:∃ V,V=U3.setCell ⟨p,0,none⟩ (.slice q3 (n+1) c3):=⟨_,rfl⟩;have bp4:Box W4 p #[.slice q3 (n+1) c3,nilV,nilV,lv,nilV,nilV,.int .i64 0] 244:=by rw [hW4];exact bp3.set
 have hO4:W4.ownsRow B 57 11 (.slice q3 (n+1) c3) (n+1) (rs.flatMap RuleV.cells++#[.string name,.int .i64 fr,.int .i64 tt,.int .i64 month,.int .i64 kind,.int .i64 wk,.int .i64 d,.int .i64 sec,.int .i64 base,.int .i64 save,.string letter].toList):=by rw [hW4];exact ownsRow_setCell_below ho3 hpB _
 have hL4:W4.ownsRow B 3 1 lv n ((Ck.up 0 n).flatMap intC):=by rw [hW4];exact ownsRow_setCell_below hL3 hpB _
 have hfr4:Fr B p W W4:=by rw [hW4];exact hfr3.trans Fr.set
 have hsz4:=hfr4.size;rw [← hW4];clear hW4 bp3 bx3 hfr3 hL3 cX fX lX ho3 hg3 hO1 bsrc hU1 hUb hSU hS bx2 bp2 hL2 hO2 hbw2;have c4:=bp4.cell;have l4:=bp4.lt;have f4:=bp4.free;have HL4:=kj hL4;have HO4:=kj hO4;have HY:=kj hi2;have HY0:=kj hy0;have HY1:=kj hy1;have HY2:=kj hy2;clear hL4 hO4 hi2 hy0 hy1 hy2 hi1 hz0 hz1 hz2 hL hO
 go_wp2_with (at_builtin;refine wpList_append_own _ rfl _ _ 199 rfl B 3 i2 _ 1 8 underlying199 HY.out HY0.out HY1.out HY2.out rfl (by decide) _ _ _ rfl (World.ownsRow.alloc HL4.out _) ⟨_,0,none⟩ 1 1 [.int .i64 ((n:Int)+1)] rfl rfl (cell_one_at (by simp)) (by simp [Value.oneCell']) (by unfold maxLen;omega) (by omega) (by simp;omega) ?_;intro v5 w5 hown5 hgrow5 _;obtain ⟨p5,cc5,rfl⟩:=own_f hown5;have hLA:=World.ownsRow.alloc HL4.out (.cells #[.int .i64 ((n:Int)+1)] 3);have bp5:Box w5 p #[.slice q3 (n+1) c3,nilV,nilV,lv,nilV,nilV,.int .i64 0] 244:=(hgrow5.block p bp4.old.lt (fun e=>by have:=(hLA.lt p e.symm).1;omega)).trans bp4.old;have cp5:=bp5.cell;have fp5:=bp5.free;have lp5:=bp5.lt)
 go_ret;have hO5:w5.ownsRow B 57 11 (.slice q3 (n+1) c3) (n+1) _:=(World.ownsRow.alloc HO4.out _).kept hgrow5 (own_ne (World.ownsRow.alloc HO4.out _) hLA (by decide));refine ⟨rfl,⟨_,_,bp5.set,?_,?_⟩,?_⟩
 ·have hlen:(rs++[(⟨name,fr,tt,month,kind,wk,d,sec,base,save,letter⟩:RuleV)]).length=n+1:=by rw [List.length_append, ←HN.out];rfl
  rw [hlen,List.flatMap_append];have:=ownsRow_setCell_below hO5 (a:=⟨p,3,none⟩) hpB (.slice p5 (n+1) cc5);rw [show [(⟨name,fr,tt,month,kind,wk,d,sec,base,save,letter⟩:RuleV)].flatMap RuleV.cells=#[.string name,.int .i64 fr,.int .i64 tt,.int .i64 month,.int .i64 kind,.int .i64 wk,.int .i64 d,.int .i64 sec,.int .i64 base,.int .i64 save,.string letter].toList from rfl];exact this
 ·have hlen:(rs++[(⟨name,fr,tt,month,kind,wk,d,sec,base,save,letter⟩:RuleV)]).length=n+1:=by rw [List.length_append, ←HN.out];rfl
  rw [hlen,Ck.up_succ,ints_snoc];have:=ownsRow_setCell_below hown5 (a:=⟨p,3,none⟩) hpB (.slice p5 (n+1) cc5);have e:(((0+n+1:Nat):Int))=(n:Int)+1:=by omega
  rw [e];exact this
 ·exact (hfr4.trans (Fr.below (ba (Below.refl _ _)) (by omega))).trans ((Fr.grown hgrow5 (by simp;omega) (fun g hg=>(hLA.lt g hg).1)).trans Fr.set)
end RdR
end
end Go.Proofs.YtgmfojgnjdpofaaGreatDoor
