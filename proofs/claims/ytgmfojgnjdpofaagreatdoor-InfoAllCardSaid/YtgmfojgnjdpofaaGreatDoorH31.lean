import Derived.Test.YtgmfojgnjdpofaaGreatDoorH30
import Derived.Test.YtgmfojgnjdpofaaGreatDoorH15
import Derived.Test.YtgmfojgnjdpofaaGreatDoorH25
import Derived.Test.YtgmfojgnjdpofaaGreatDoorH4
import Derived.Test.YtgmfojgnjdpofaaGreatDoorH20
import Derived.Test.YtgmfojgnjdpofaaGreatDoorH3
namespace Go.Proofs.YtgmfojgnjdpofaaGreatDoor
open Go.Proofs.Tryz
section
open Go.RowKit NB
namespace Chg
open Pt Frc L33
noncomputable def VV (l:List RuleV) (es:List EraV) (s:Int):ValV:=match es[idx (Zn.endsL l es) s]? with|some e=>AV l e s|none=>zeroV
noncomputable def candN (l:List RuleV) (es:List EraV) (s:Int):Int×Bool:=match es[idx (Zn.endsL l es) s]? with
 |none=>(0,false)
 |some e=>match (Zn.endsL l es)[idx (Zn.endsL l es) s]? with
  |none=>nextV l e s
  |some t=>if (nextV l e s).2=false∨t<(nextV l e s).1 then (t,true) else nextV l e s
noncomputable def stepN (l:List RuleV) (es:List EraV) (s:Int):Option Int:=if (candN l es s).2=false∨hi<(candN l es s).1∨(candN l es s).1≤s then none else some (candN l es s).1
inductive NextR (l:List RuleV) (es:List EraV) (v:ValV):Int→Int×Bool→Prop
 |stop {s:Int}:stepN l es s=none→NextR l es v s (0,false)
 |hit {s c:Int}:stepN l es s=some c→VV l es c≠v→NextR l es v s (c,true)
 |go {s c:Int} {r:Int×Bool}:stepN l es s=some c→VV l es c=v→NextR l es v c r→NextR l es v s r
def startP (l:List RuleV) (es:List EraV) (s:Int):Int:=if 0<idx (Zn.endsL l es) s then ((Zn.endsL l es)[idx (Zn.endsL l es) s-1]?).getD lo else lo
noncomputable def here (l:List RuleV) (es:List EraV) (s:Int):Int×Bool:=match es[idx (Zn.endsL l es) s]? with
 |none=>(0,false)
 |some e=>prevV l e s
inductive PrevR (l:List RuleV) (es:List EraV) (v:ValV):Int→Int×Bool→Prop
 |here {s:Int}:(here l es s).2=true→startP l es s<(here l es s).1→PrevR l es v s ((here l es s).1,true)
 |stop {s:Int}:((here l es s).2=true→(here l es s).1≤startP l es s)→idx (Zn.endsL l es) s=0→PrevR l es v s (0,false)
 |hit {s:Int}:((here l es s).2=true→(here l es s).1≤startP l es s)→0<idx (Zn.endsL l es) s→VV l es (startP l es s-1)≠v→PrevR l es v s (startP l es s,true)
 |go {s:Int} {r:Int×Bool}:((here l es s).2=true→(here l es s).1≤startP l es s)→0<idx (Zn.endsL l es) s→VV l es (startP l es s-1)=v→PrevR l es v (startP l es s-1) r→PrevR l es v s r
section
variable {l:List RuleV} {es:List EraV} (hg:GoodE l es) (hc:(Chk.check l).2=0)
include hg
theorem era_at (s:Int):∃ e,es[idx (Zn.endsL l es) s]? =some e∧Er.rightB e=true∧VV l es s=AV l e s:=by
 obtain ⟨e,he⟩:∃ e,es[idx (Zn.endsL l es) s]? =some e:=⟨_,List.getElem?_eq_getElem (era_in hg s)⟩;refine ⟨e,he,good_right hg he,?_⟩;unfold VV;rw [he]
theorem same_era {s u:Int} {e:EraV} (he:es[idx (Zn.endsL l es) s]? =some e) (h1:∀ t,(Zn.endsL l es)[idx (Zn.endsL l es) s]? =some t→u<t) (h2:0<idx (Zn.endsL l es) s→∀ t,(Zn.endsL l es)[idx (Zn.endsL l es) s-1]? =some t→t≤u):idx (Zn.endsL l es) u=idx (Zn.endsL l es) s∧VV l es u=AV l e u:=by
 have hi:idx (Zn.endsL l es) u=idx (Zn.endsL l es) s:=by
  refine idx_of (idx_le _ _) h1 (fun j x hj hx=> ?_);obtain ⟨y,hy⟩:∃ y,(Zn.endsL l es)[idx (Zn.endsL l es) s-1]? =some y:=⟨_,List.getElem?_eq_getElem (by have:=idx_le (Zn.endsL l es) s;omega)⟩;have hyu:=h2 (by omega) y hy
  by_cases hji:j=idx (Zn.endsL l es) s-1
  ·subst hji;rw [hx] at hy;cases hy;exact hyu
  ·obtain ⟨ha,ea⟩:=List.getElem?_eq_some_iff.1 hx;obtain ⟨hb,eb⟩:=List.getElem?_eq_some_iff.1 hy;have:=List.pairwise_iff_getElem.1 hg.sort j _ ha hb (by omega);omega
 refine ⟨hi,?_⟩;unfold VV;rw [hi,he]
include hc
theorem same_next {s u:Int} {e:EraV} (hs0:lo≤s) (hs1:s≤hi) (hu:s≤u) (hu1:u≤hi) (he:es[idx (Zn.endsL l es) s]? =some e) (h1:∀ t,(Zn.endsL l es)[idx (Zn.endsL l es) s]? =some t→u<t) (h2:∀ n,nextV l e s=(n,true)→u<n):VV l es u=VV l es s:=by
 obtain ⟨_,hR,hv⟩:=show ∃ e',Er.rightB e=true∧VV l es s=AV l e s from by
  obtain ⟨e',he',hR,hv⟩:=era_at hg s;rw [he] at he';cases he';exact ⟨e,hR,hv⟩
 unfold lo at hs0;unfold hi at hs1 hu1;rw [(same_era hg he h1 (fun h0 t ht=>by have:=idx_ahead (show idx (Zn.endsL l es) s-1<idx (Zn.endsL l es) s by omega) ht;omega)).2,hv];exact elseB hc hR (t:=s) (by omega) (by omega) (by omega) (by omega) h2 (fun p hp=>by have:=(prevB hc hR (t:=s) (by omega) (by omega) hp).2.1;omega)
theorem stepN_spec {s:Int} (h0:lo≤s) (h1:s≤hi):(stepN l es s=none→∀ u,s≤u→u≤hi→VV l es u=VV l es s)∧∀ c,stepN l es s=some c→s<c∧c≤hi∧∀ u,s≤u→u<c→VV l es u=VV l es s:=by
 obtain ⟨e,he,hR,_⟩:=era_at hg s;have hn:∀ n,nextV l e s=(n,true)→s<n:=fun n hn=>by
  have a:=h0;have b:=h1;unfold lo at a;unfold hi at b;exact (nextB hc hR (t:=s) (by omega) (by omega) hn).2.1
 have key:=fun (u:Int) hu hu1 h2 h3=>same_next hg hc (u:=u) h0 h1 hu hu1 he h2 h3;unfold stepN candN;rw [he];simp only;obtain ⟨N,hN⟩:∃ N,nextV l e s=N:=⟨_,rfl⟩;obtain ⟨n,b⟩:=N;rw [hN] at hn key ⊢;cases hL:(Zn.endsL l es)[idx (Zn.endsL l es) s]? with
 |none=>
  rw [hL] at key;simp only;cases b
  ·simp only [true_or,if_true];exact ⟨fun _ u hu hu1=>key u hu hu1 (fun t ht=>by cases ht) (fun n' h=>by cases h),fun c h=>by cases h⟩
  ·have hs:=hn n rfl
   by_cases hh:hi<n
   ·rw [if_pos (.inr (.inl hh))];exact ⟨fun _ u hu hu1=>key u hu hu1 (fun t ht=>by cases ht) (fun n' h=>by cases h;omega),fun c h=>by cases h⟩
   ·rw [if_neg (by rintro (h|h|h);cases h;exact hh h;omega)];exact ⟨fun h=>(by cases h),fun c h=>(by cases h;exact ⟨hs,by omega,fun u hu hun=>key u hu (by omega) (fun t ht=>by cases ht) (fun n' h=>by cases h;omega)⟩)⟩
 |some t=>
  have ht:=idx_here hL;rw [hL] at key;simp only
  by_cases hA:b=false∨t<n
  ·rw [if_pos hA];simp only;have hB:∀ n',(n,b)=(n',true)→t<n':=fun n' h=>by
    cases h;rcases hA with h|h
    ·cases h
    ·exact h
   by_cases hh:hi<t
   ·rw [if_pos (.inr (.inl hh))];exact ⟨fun _ u hu hu1=>key u hu hu1 (fun t' ht=>by cases ht;omega) (fun n' h=>by have:=hB n' h;omega),fun c h=>by cases h⟩
   ·rw [if_neg (by rintro (h|h|h);cases h;exact hh h;omega)];exact ⟨fun h=>(by cases h),fun c h=>(by cases h;exact ⟨ht,by omega,fun u hu hun=>key u hu (by omega) (fun t' ht=>by cases ht;exact hun) (fun n' h=>by have:=hB n' h;omega)⟩)⟩
  ·rw [if_neg hA];simp only;have hb:b=true:=by cases b;exact absurd (.inl rfl) hA;rfl
   subst hb;have hs:=hn n rfl;have hnt:n≤t:=by
    refine Int.not_lt.1 fun h=>hA (.inr h)
   by_cases hh:hi<n
   ·rw [if_pos (.inr (.inl hh))];exact ⟨fun _ u hu hu1=>key u hu hu1 (fun t' ht=>by cases ht;omega) (fun n' h=>by cases h;omega),fun c h=>by cases h⟩
   ·rw [if_neg (by rintro (h|h|h);cases h;exact hh h;omega)];exact ⟨fun h=>(by cases h),fun c h=>(by cases h;exact ⟨hs,by omega,fun u hu hun=>key u hu (by omega) (fun t' ht=>by cases ht;omega) (fun n' h=>by cases h;exact hun)⟩)⟩
theorem next_spec {v:ValV} {s:Int} {r:Int×Bool} (h:NextR l es v s r):lo≤s→s≤hi→VV l es s=v→(r.2=true→s<r.1∧r.1≤hi∧VV l es r.1≠v∧∀ u,s≤u→u<r.1→VV l es u=v)∧(r.2=false→r.1=0∧∀ u,s≤u→u≤hi→VV l es u=v):=by
 induction h with
 |stop h=>
  intro h0 h1 hv;refine ⟨fun h=>(by cases h),fun _=>⟨rfl,fun u hu hu1=> ?_⟩⟩;rw [(stepN_spec hg hc h0 h1).1 h u hu hu1,hv]
 |hit h hne=>
  intro h0 h1 hv;obtain ⟨a,b,d⟩:=(stepN_spec hg hc h0 h1).2 _ h;exact ⟨fun _=>⟨a,b,hne,fun u hu hu1=>by rw [d u hu hu1,hv]⟩,fun h=>(by cases h)⟩
 |go h heq _ ih=>
  intro h0 h1 hv;obtain ⟨a,b,d⟩:=(stepN_spec hg hc h0 h1).2 _ h;obtain ⟨i1,i2⟩:=ih (by omega) b heq;refine ⟨fun hr=> ?_,fun hr=>⟨(i2 hr).1,fun u hu hu1=> ?_⟩⟩
  ·obtain ⟨x1,x2,x3,x4⟩:=i1 hr;refine ⟨by omega,x2,x3,fun u hu hu1=> ?_⟩;rename_i c _ _
   by_cases hc':u<c
   ·rw [d u hu hc',hv]
   ·exact x4 u (by omega) hu1
  ·rename_i c _ _
   by_cases hc':u<c
   ·rw [d u hu hc',hv]
   ·exact (i2 hr).2 u (by omega) hu1
theorem next_total (v:ValV):∀ (n:Nat) (s:Int),lo≤s→s≤hi→(hi-s).toNat≤n→∃ r,NextR l es v s r
 |n,s,h0,h1,hn=>by
  cases hs:stepN l es s with
  |none=>exact ⟨_,.stop hs⟩
  |some c=>
   obtain ⟨a,b,_⟩:=(stepN_spec hg hc h0 h1).2 c hs
   by_cases hv:VV l es c=v
   ·match n with
    |0=>omega
    |n+1=>
     obtain ⟨r,hr⟩:=next_total v n c (by omega) b (by omega);exact ⟨r,.go hs hv hr⟩
   ·exact ⟨_,.hit hs hv⟩
omit hc in
theorem start_spec (s:Int):lo≤startP l es s∧(lo≤s→startP l es s≤s)∧(0<idx (Zn.endsL l es) s→lo<startP l es s∧startP l es s≤hi∧(Zn.endsL l es)[idx (Zn.endsL l es) s-1]? =some (startP l es s)):=by
 unfold startP
 by_cases h:0<idx (Zn.endsL l es) s
 ·rw [if_pos h];obtain ⟨t,ht⟩:∃ t,(Zn.endsL l es)[idx (Zn.endsL l es) s-1]? =some t:=⟨_,List.getElem?_eq_getElem (by have:=idx_le (Zn.endsL l es) s;omega)⟩;rw [ht,Option.getD_some];obtain ⟨r1,r2⟩:=end_range hg.zone ht;have:=idx_ahead (show idx (Zn.endsL l es) s-1<idx (Zn.endsL l es) s by omega) ht;exact ⟨by omega,fun _=>this,fun _=>⟨r1,r2,rfl⟩⟩
 ·rw [if_neg h];exact ⟨Int.le_refl _,fun h=>h,fun h'=>absurd h' h⟩
theorem same_prev {s u:Int} (hs1:s≤hi) (hu0:startP l es s≤u) (hu1:u≤s) (h2:(here l es s).2=true→(here l es s).1≤u):VV l es u=VV l es s:=by
 obtain ⟨e,he,hR,hv⟩:=era_at hg s;have hl:=(start_spec hg (l:=l) s).1;have hse:=same_era hg he (u:=u) (fun t ht=>by have:=idx_here ht;omega) (fun h0 t ht=>by have:=((start_spec hg (l:=l) s).2.2 h0).2.2;rw [ht] at this;cases this;exact hu0);unfold lo at hl;unfold hi at hs1;rw [hse.2,hv];refine elseB hc hR (t:=s) (by omega) (by omega) (by omega) (by omega) (fun n hn=>by have:=(nextB hc hR (t:=s) (by omega) (by omega) hn).2.1;omega) (fun p hp=> ?_);unfold here at h2;rw [he] at h2;simp only at h2;rw [hp] at h2;exact h2 rfl
theorem here_spec {s:Int} (hs0:lo≤s) (hs1:s≤hi) (h:(here l es s).2=true) (hp:startP l es s<(here l es s).1):lo<(here l es s).1∧(here l es s).1≤s∧VV l es ((here l es s).1-1)≠VV l es s∧∀ u,(here l es s).1≤u→u≤s→VV l es u=VV l es s:=by
 obtain ⟨e,he,hR,hv⟩:=era_at hg s;have hl:=(start_spec hg (l:=l) s).1;obtain ⟨P,hP⟩:∃ P,prevV l e s=P:=⟨_,rfl⟩;obtain ⟨p,b⟩:=P;have hh:here l es s=(p,b):=by unfold here;rw [he];exact hP
 rw [hh] at h hp ⊢;dsimp only at h hp ⊢;subst h;have hB:=prevB hc hR (t:=s) (by unfold lo at hs0;omega) (by unfold hi at hs1;omega) hP;refine ⟨by omega,hB.2.1,?_,fun u hu hu1=>same_prev hg hc hs1 (by omega) hu1 (fun _=>by rw [hh];exact hu)⟩;have hse:=same_era hg he (u:=p-1) (fun t ht=>by have:=idx_here ht;omega) (fun h0 t ht=>by have:=((start_spec hg (l:=l) s).2.2 h0).2.2;rw [ht] at this;cases this;omega);rw [hse.2,hv];exact hB.2.2.1
theorem prev_spec {v:ValV} {s:Int} {r:Int×Bool} (h:PrevR l es v s r):lo≤s→s≤hi→VV l es s=v→(r.2=true→lo<r.1∧r.1≤s∧VV l es (r.1-1)≠v∧∀ u,r.1≤u→u≤s→VV l es u=v)∧(r.2=false→r.1=0∧∀ u,lo≤u→u≤s→VV l es u=v):=by
 induction h with
 |here h hp=>
  intro h0 h1 hv;obtain ⟨a,b,c,d⟩:=here_spec hg hc h0 h1 h hp;exact ⟨fun _=>⟨a,b,fun e=>c (by rw [e,hv]),fun u hu hu1=>by rw [d u hu hu1,hv]⟩,fun h=>by cases h⟩
 |stop h h0'=>
  intro h0 h1 hv;rename_i s;refine ⟨fun h=>(by cases h),fun _=>⟨rfl,fun u hu hu1=> ?_⟩⟩;have hst:startP l es s=lo:=by unfold startP;rw [if_neg (by omega)]
  rw [same_prev hg hc h1 (by rw [hst];exact hu) hu1 (fun hh=>by have:=h hh;omega),hv]
 |hit h hi0 hne=>
  intro h0 h1 hv;rename_i s;obtain ⟨a,b,c⟩:=start_spec hg (l:=l) s;exact ⟨fun _=>⟨(c hi0).1,b h0,hne,fun u hu hu1=>by rw [same_prev hg hc h1 hu hu1 (fun hh=>by have:=h hh;omega),hv]⟩,fun h=>by cases h⟩
 |go h hi0 heq _ ih=>
  intro h0 h1 hv;rename_i s _ _;obtain ⟨a,b,c⟩:=start_spec hg (l:=l) s;have hb:=b h0;obtain ⟨c1,c2,_⟩:=c hi0;obtain ⟨i1,i2⟩:=ih (by omega) (by omega) heq;have hsame:∀ u,startP l es s≤u→u≤s→VV l es u=v:=fun u hu hu1=>by rw [same_prev hg hc h1 hu hu1 (fun hh=>by have:=h hh;omega),hv]
  refine ⟨fun hr=> ?_,fun hr=>⟨(i2 hr).1,fun u hu hu1=> ?_⟩⟩
  ·obtain ⟨x1,x2,x3,x4⟩:=i1 hr;refine ⟨x1,by omega,x3,fun u hu hu1=> ?_⟩
   by_cases hu2:startP l es s≤u
   ·exact hsame u hu2 hu1
   ·exact x4 u hu (by omega)
  ·by_cases hu2:startP l es s≤u
   ·exact hsame u hu2 hu1
   ·exact (i2 hr).2 u hu (by omega)
theorem prev_total (v:ValV):∀ (n:Nat) (s:Int),lo≤s→s≤hi→(s-lo).toNat≤n→∃ r,PrevR l es v s r
 |n,s,h0,h1,hn=>by
  have _:=hc
  by_cases hh:(here l es s).2=true∧startP l es s<(here l es s).1
  ·exact ⟨_,.here hh.1 hh.2⟩
  ·have hle:(here l es s).2=true→(here l es s).1≤startP l es s:=fun h=>Int.not_lt.1 fun h'=>hh ⟨h,h'⟩
   by_cases hi0:0<idx (Zn.endsL l es) s
   ·obtain ⟨a,b,c⟩:=start_spec hg (l:=l) s;have hb:=b h0;obtain ⟨c1,c2,_⟩:=c hi0
    by_cases hv:VV l es (startP l es s-1)=v
    ·match n with
     |0=>omega
     |n+1=>
      obtain ⟨r,hr⟩:=prev_total v n (startP l es s-1) (by omega) (by omega) (by omega);exact ⟨r,.go hle hi0 hv hr⟩
    ·exact ⟨_,.hit hle hi0 hv⟩
   ·exact ⟨_,.stop hle (by omega)⟩
theorem between {s u:Int} {r q:Int×Bool} (h0:lo≤s) (h1:s≤hi) (u0:lo≤u) (u1:u≤hi) (hr:NextR l es (VV l es s) s r) (hq:PrevR l es (VV l es s) s q) (ha:r.2=true→u<r.1) (hb:q.2=true→q.1≤u):VV l es u=VV l es s:=by
 obtain ⟨n1,n2⟩:=next_spec hg hc hr h0 h1 rfl;obtain ⟨p1,p2⟩:=prev_spec hg hc hq h0 h1 rfl
 by_cases hsu:s≤u
 ·cases hrb:r.2
  ·exact (n2 hrb).2 u hsu u1
  ·exact (n1 hrb).2.2.2 u hsu (ha hrb)
 ·cases hqb:q.2
  ·exact (p2 hqb).2 u u0 (by omega)
  ·exact (p1 hqb).2.2.2 u (hb hqb) (by omega)
theorem next_prev {s n:Int} {q:Int×Bool} (h0:lo≤s) (h1:s≤hi) (hr:NextR l es (VV l es s) s (n,true)) (hq:PrevR l es (VV l es n) n q):q=(n,true):=by
 obtain ⟨a,b,c,d⟩:=(next_spec hg hc hr h0 h1 rfl).1 rfl;dsimp only at a b c d;obtain ⟨p1,p2⟩:=prev_spec hg hc hq (by omega) b rfl;have hv:=d (n-1) (by omega) (by omega);obtain ⟨q1,q2⟩:=q;cases q2
 ·exact absurd ((p2 rfl).2 (n-1) (by omega) (by omega)) (fun e=>c (by rw [← e,hv]))
 ·obtain ⟨x1,x2,x3,x4⟩:=p1 rfl;dsimp only at x1 x2 x3 x4
  by_cases hq:q1=n
  ·rw [hq]
  ·exact absurd (x4 (n-1) (by omega) (by omega)) (fun e=>c (by rw [← e,hv]))
theorem prev_next {s p:Int} {r:Int×Bool} (h0:lo≤s) (h1:s≤hi) (hq:PrevR l es (VV l es s) s (p,true)) (hr:NextR l es (VV l es (p-1)) (p-1) r):r=(p,true):=by
 obtain ⟨a,b,c,d⟩:=(prev_spec hg hc hq h0 h1 rfl).1 rfl;dsimp only at a b c d;obtain ⟨n1,n2⟩:=next_spec hg hc hr (by omega) (by omega) rfl;have hv:=d p (by omega) b;obtain ⟨r1,r2⟩:=r;cases r2
 ·exact absurd ((n2 rfl).2 p (by omega) (by omega)) (fun e=>c (by rw [← e,hv]))
 ·obtain ⟨x1,x2,x3,x4⟩:=n1 rfl;dsimp only at x1 x2 x3 x4
  by_cases hq:r1=p
  ·rw [hq]
  ·exact absurd (x4 p (by omega) (by omega)) (fun e=>c (by rw [← e,hv]))
end
section
variable {l:List RuleV} {es:List EraV} {v:ValV} {s c:Int} {r:Int×Bool}
theorem next_stop (h:NextR l es v s r) (hs:stepN l es s=none):r=(0,false):=by
 cases h with
 |stop _=>rfl
 |hit h _=>rw [hs] at h;cases h
 |go h _ _=>rw [hs] at h;cases h
theorem next_hit (h:NextR l es v s r) (hs:stepN l es s=some c) (hv:VV l es c≠v):r=(c,true):=by
 cases h with
 |stop h=>rw [hs] at h;cases h
 |hit h _=>rw [hs] at h;cases h;rfl
 |go h h' _=>rw [hs] at h;cases h;exact absurd h' hv
theorem next_go (h:NextR l es v s r) (hs:stepN l es s=some c) (hv:VV l es c=v):NextR l es v c r:=by
 cases h with
 |stop h=>rw [hs] at h;cases h
 |hit h h'=>rw [hs] at h;cases h;exact absurd hv h'
 |go h _ h'=>rw [hs] at h;cases h;exact h'
theorem cand_none {e:EraV} (he:es[idx (Zn.endsL l es) s]? =some e) (hL:(Zn.endsL l es)[idx (Zn.endsL l es) s]? =none):candN l es s=nextV l e s:=by
 unfold candN;rw [he,hL]
theorem cand_end {e:EraV} {t:Int} (he:es[idx (Zn.endsL l es) s]? =some e) (hL:(Zn.endsL l es)[idx (Zn.endsL l es) s]? =some t) (h:(nextV l e s).2=false∨t<(nextV l e s).1):candN l es s=(t,true):=by
 unfold candN;rw [he,hL];simp only;rw [if_pos h]
theorem cand_in {e:EraV} {t:Int} (he:es[idx (Zn.endsL l es) s]? =some e) (hL:(Zn.endsL l es)[idx (Zn.endsL l es) s]? =some t) (h:¬((nextV l e s).2=false∨t<(nextV l e s).1)):candN l es s=nextV l e s:=by
 unfold candN;rw [he,hL];simp only;rw [if_neg h]
theorem prev_here (h:PrevR l es v s r) (h1:(here l es s).2=true) (h2:startP l es s<(here l es s).1):r=((here l es s).1,true):=by
 cases h with
 |here _ _=>rfl
 |stop h _=>have:=h h1;omega
 |hit h _ _=>have:=h h1;omega
 |go h _ _ _=>have:=h h1;omega
theorem prev_stop (h:PrevR l es v s r) (h1:(here l es s).2=true→(here l es s).1≤startP l es s) (h2:idx (Zn.endsL l es) s=0):r=(0,false):=by
 cases h with
 |here a b=>have:=h1 a;omega
 |stop _ _=>rfl
 |hit _ a _=>omega
 |go _ a _ _=>omega
theorem prev_hit (h:PrevR l es v s r) (h1:(here l es s).2=true→(here l es s).1≤startP l es s) (h2:0<idx (Zn.endsL l es) s) (hv:VV l es (startP l es s-1)≠v):r=(startP l es s,true):=by
 cases h with
 |here a b=>have:=h1 a;omega
 |stop _ a=>omega
 |hit _ _ _=>rfl
 |go _ _ a _=>exact absurd a hv
theorem prev_go (h:PrevR l es v s r) (h1:(here l es s).2=true→(here l es s).1≤startP l es s) (h2:0<idx (Zn.endsL l es) s) (hv:VV l es (startP l es s-1)=v):PrevR l es v (startP l es s-1) r:=by
 cases h with
 |here a b=>have:=h1 a;omega
 |stop _ a=>omega
 |hit _ _ a=>exact absurd hv a
 |go _ _ _ a=>exact a
end
end Chg
end
section
open Go.RowKit NB
namespace Pt
theorem isNaN64 (x:Int) (w:World):Calls prog 153 #[.int .i64 x] w fun e w'=>e=.returned (.bool false)∧w=w':=by
 go_enter func153,ntmps153;go_wp2;go_ret;exact ⟨ret_bool (by simp),rfl⟩
theorem less64 (x y:Int) (w:World):Calls prog 152 #[.int .i64 x,.int .i64 y] w fun e w'=>e=.returned (.bool (decide (x<y)))∧w=w':=by
 by_cases h:x<y
 ·rw [decide_eq_true h];go_enter func152,ntmps152
  go_wp2_with (go_at_call 214;(with_reducible refine (Cmp.NaN64 _ _).mono ?_);rintro e w' ⟨rfl,rfl⟩)
  go_ret;exact ⟨ret_bool (by simp),rfl⟩
 ·rw [decide_eq_false h];go_enter func152,ntmps152
  go_wp2_with (go_at_call 214;(with_reducible refine (Cmp.NaN64 _ _).mono ?_);rintro e w' ⟨rfl,rfl⟩)
  go_ret;exact ⟨ret_bool (by simp [h]),rfl⟩
set_option maxRecDepth 100000 in
set_option maxHeartbeats 3200000 in
theorem search {w:World} {v:Value} {L:List Int} (h:HoldsG 1 intC w v L) (hn:L.length≤100000) (ho:L.Pairwise (· < ·)) (t:Int):
 Calls prog 95 #[v,.int .i64 (t+1)] w fun e w'=>(∃ u:Value,e=.returned (.tuple #[.int .i64 (idx L t),u]))∧w=w':=by
 obtain ⟨p,cap,rfl,hp⟩:=HoldsG.pkI h;obtain ⟨n,hnn⟩:∃ n,n=L.length:=⟨_,rfl⟩;obtain ⟨q,hq⟩:∃ q,q=t+1:=⟨_,rfl⟩;rw [← hnn] at hn ⊢;obtain ⟨I,hI⟩:∃ I,I=idx L t:=⟨_,rfl⟩;rw [← hq, ←hI];have HI:=kj hI;have HP:=kj hp;have HO:=kj (List.pairwise_iff_getElem.1 ho);have HN:=kj hnn;have HQ:=kj hq;clear h hp ho hnn hq hI;go_enter func95,ntmps95;go_wp2
 go_loop [7,8] (fun i j=>∃ lo hi:Nat,i=.int .i64 lo∧j=.int .i64 hi∧lo≤hi∧hi≤n∧Hid (∀ m x,m<lo→L[m]? =some x→x<q)∧Hid (∀ m x,hi≤m→L[m]? =some x→q≤x)) (fun i j=>(intOf j).toNat-(intOf i).toNat)
 case atStart=>exact ⟨0,n,rfl,rfl,Nat.zero_le _,Nat.le_refl _,fun m x hm=>absurd hm (Nat.not_lt_zero _),fun m x hm hx=>by have:=(List.getElem?_eq_some_iff.1 hx).1;rw [← HN.out] at this;omega⟩
 case round=>
  obtain ⟨lo,hi,rfl,rfl,hlh,hhn,I1,I2⟩:=hrel
  by_cases hlt:lo<hi
  ·have hk:(lo+hi)/2<L.length:=by rw [← HN.out];omega
   obtain ⟨x,hx⟩:∃ x,L[(lo+hi)/2]? =some x:=⟨_,List.getElem?_eq_getElem hk⟩;obtain ⟨b,off,rfl,hb,c0⟩:=HP.out _ x hx;have HX:=kj hx;have hb1:(lo:Int)<(hi:Int):=by omega
   have hb2:(0:Int)≤(lo:Int)+(hi:Int):=by omega
   have hb3:(lo+hi)/2<n:=by omega
   clear hx hk
   by_cases hxt:x<q
   ·have cl:=less64 x q;rw [decide_eq_true hxt] at cl
    go_wp2_with (go_at_call 152;(with_reducible refine (cl _).mono ?_);rintro e w' ⟨rfl,rfl⟩)
    go_round
    case rel=>
     refine ⟨(lo+hi)/2+1,hi,by go_num,rfl,by omega,hhn,fun m y hm hy=> ?_,I2⟩
     by_cases hmm:m=(lo+hi)/2
     ·subst hmm;rw [HX.out] at hy;cases hy;exact hxt
     ·obtain ⟨h1,e1⟩:=List.getElem?_eq_some_iff.1 hy;obtain ⟨h2,e2⟩:=List.getElem?_eq_some_iff.1 HX.out;have:=HO.out m _ h1 h2 (by omega);omega
    case measure=>simp [intOf];omega
   ·have cl:=less64 x q;rw [decide_eq_false hxt] at cl
    go_wp2_with (go_at_call 152;(with_reducible refine (cl _).mono ?_);rintro e w' ⟨rfl,rfl⟩)
    go_round
    case rel=>
     refine ⟨lo,(lo+hi)/2,rfl,by go_num,by omega,by omega,I1,fun m y hm hy=> ?_⟩
     by_cases hmm:m=(lo+hi)/2
     ·subst hmm;rw [HX.out] at hy;cases hy;omega
     ·obtain ⟨h1,e1⟩:=List.getElem?_eq_some_iff.1 hy;obtain ⟨h2,e2⟩:=List.getElem?_eq_some_iff.1 HX.out;have:=HO.out _ m h2 h1 (by omega);omega
    case measure=>simp [intOf];omega
  ·obtain rfl:lo=hi:=by omega
   have hp:I=lo:=HI.out.trans <| idx_of (by rw [← HN.out];exact hhn) (fun x hx=>by have:=I2.out lo x (Nat.le_refl _) hx;rw [HQ.out] at this;omega) (fun m x hm hx=>by have:=I1.out m x hm hx;rw [HQ.out] at this;omega);subst hp
   by_cases hln:I<n
   ·obtain ⟨x,hx⟩:∃ x,L[I]? =some x:=⟨_,List.getElem?_eq_getElem (by rw [← HN.out];exact hln)⟩;obtain ⟨b,off,rfl,hb,c0⟩:=HP.out _ x hx;have hb5:(I:Int)<(n:Int):=by omega
    have cn:=isNaN64 x;clear hx
    by_cases hxq:x=q
    ·subst hxq
     go_wp2_with (go_at_call 153;(with_reducible refine (cn _).mono ?_);rintro e w' ⟨rfl,rfl⟩)
     go_ret2;exact ⟨⟨_,rfl⟩,rfl⟩
    ·have hq2:(x==q)=false:=by rw [beq_eq_false_iff_ne];exact hxq
     go_wp2_with (go_at_call 153;(with_reducible refine (cn _).mono ?_);rintro e w' ⟨rfl,rfl⟩)
     go_ret2;exact ⟨⟨_,rfl⟩,rfl⟩
   ·go_wp2;go_ret2;exact ⟨⟨_,rfl⟩,rfl⟩
end Pt
end
section
open Go.RowKit NB Nxt
namespace Frc
def viewC (e:EraV) (r:Value) (g n:Nat):Array Value:=#[.int .i64 e.off,.int .i64 e.kind,.int .i64 e.save,.string e.rules,.string e.format,.bool e.u.has,.int .i64 e.u.year,.int .i64 e.u.month,.int .i64 e.u.kind,.int .i64 e.u.week,.int .i64 e.u.day,.int .i64 e.u.sec,.int .i64 e.u.base,r,.slice (some ⟨g,0,none⟩) n n]
def valX (e:EraV) (r:RuleV):ValV:=if r.name=e.rules then valO e r else ⟨0,0,⟨#[]⟩⟩
structure View (W:World) (b:Nat) (l:List RuleV) (e:EraV) (r:Value) (g:Nat):Prop where
 box:Box W b (viewC e r g l.length) 211
 rules:Holds W r l
 lt:g<W.heap.size
 vals:∀ (i:Nat) (x:RuleV),l[i]? =some x→∀ (j:Nat) (u:Value),(valX e x).cells[j]? =some u→W.cell? ⟨g,i*3+j,none⟩=some u
theorem View.later {W W':World} {b:Nat} {l:List RuleV} {e:EraV} {r:Value} {g:Nat} (h:View W b l e r g) (hb:Below W.heap.size W W'):View W' b l e r g:=
 ⟨h.box.later hb,h.rules.later hb,Nat.lt_of_lt_of_le h.lt hb.size,fun i x hx j u hu=>(hb.cell (p:=⟨g,i*3+j,none⟩) h.lt).trans (h.vals i x hx j u hu)⟩
set_option maxHeartbeats 1600000 in
theorem value (e:EraV) (he:e.format.size≤9223372036854775807) (r:Value) (g n b:Nat) (save:Int) (letter:ByteArray) (hl:letter.size≤1000000) (w:World) (hb:Box w b (viewC e r g n) 211) (ht:Tab w):
 Calls prog 158 #[.pointer (some ⟨b,0,none⟩),.int .i64 save,.string letter] w fun x w'=>x=.returned (.agg (valR e save letter).cells.toArray)∧Below w.heap.size w w':=by
 have ca:=fun W (h:Tab W)=>Fmt.Abbr e.format he (wrap64 (e.off+save)) save letter hl W h;unfold valR ValV.cells;simp only;generalize (Fmt.abbrF e.format (wrap64 (e.off+save)) save letter)=ab at *;obtain ⟨ab1,ab2⟩:=ab;simp only at ca ⊢;have Ca:=kj ca;have HT:=kj ht;clear ca ht;unfold viewC at hb;have c0:=hb.cell;have l0:=hb.lt;clear hb;go_enter func158,ntmps158
 go_wp2_with (go_at_call 182;(with_reducible refine (Ca.out _ ?_).mono ?_);(· exact HT.out.later bcq);rintro e w1 ⟨rfl,hb1⟩;obtain ⟨_,_,_⟩:=bcs hb1 (w.heap.size))
 refine bodyPost_ret (v:=.agg #[.int .i64 (wrap64 (e.off+save)),.int .i64 save,.string ab1]) ?_ rfl ⟨rfl,?_⟩
 ·simp only [results,results158];go_simp
 ·exact bcq
theorem info_val:(prog.info? 30).map (fun i=>(i.zero,i.size,i.bytes))=some (some (.agg #[.int .i64 0,.int .i64 0,.string ⟨#[]⟩]),3,32):=by kernel_rfl
theorem hat {w:World} {v:Value} {l:List RuleV} (h:Holds w v l) {k:Nat} {x:RuleV} (hx:l[k]? =some x):∃ b off cap,v=.slice (some ⟨b,off,none⟩) l.length cap∧b<w.heap.size∧∀ (j:Nat) (u:Value),x.cells[j]? =some u→w.cell? ⟨b,off+k*11+j,none⟩=some u:=by
 rcases h.lies with ⟨p,cap,h1,h2⟩|⟨b,off,cap,h1,h2,h3⟩
 ·rw [h2] at hx;simp at hx
 ·exact ⟨b,off,cap,h1,h2,fun j u hu=>h3 k j _ u (by rw [List.getElem?_map,hx];rfl) hu⟩
def Filled (l:List RuleV) (e:EraV) (k:Nat) (C:Array Value):Prop:=∀ (i:Nat) (x:RuleV),l[i]? =some x→∀ (j:Nat) (u:Value),(if i<k then valX e x else ⟨0,0,⟨#[]⟩⟩).cells[j]? =some u→C[i*3+j]? =some u
theorem Filled.skip {l:List RuleV} {e:EraV} {k:Nat} {C:Array Value} (h:Filled l e k C) {y:RuleV} (hy:l[k]? =some y) (hn:¬y.name=e.rules):Filled l e (k+1) C:=by
 intro i x hx j u hu;refine h i x hx j u ?_
 by_cases hi:i<k
 ·rw [if_pos hi];rw [if_pos (by omega)] at hu;exact hu
 ·rw [if_neg hi]
  by_cases hi2:i<k+1
  ·obtain rfl:i=k:=by omega
   rw [hy] at hx;cases hx;rw [if_pos hi2] at hu;unfold valX at hu;rw [if_neg hn] at hu;exact hu
  ·rw [if_neg hi2] at hu;exact hu
theorem Filled.put {l:List RuleV} {e:EraV} {k:Nat} {C:Array Value} (h:Filled l e k C) (hC:C.size=l.length*3) {y:RuleV} (hy:l[k]? =some y) (hn:y.name=e.rules):Filled l e (k+1) (((C.setIfInBounds (k*3) (.int .i64 (valO e y).off)).setIfInBounds (k*3+1) (.int .i64 (valO e y).save)).setIfInBounds (k*3+2) (.string (valO e y).abbr)):=by
 intro i x hx j u hu;have hkl:=(List.getElem?_eq_some_iff.1 hy).1;have hil:=(List.getElem?_eq_some_iff.1 hx).1;have hj3:j<3:=by
  have:=(List.getElem?_eq_some_iff.1 hu).1;exact this
 by_cases hi:i=k
 ·subst hi;rw [hy] at hx;cases hx;rw [if_pos (by omega)] at hu;unfold valX at hu;rw [if_pos hn] at hu;rcases (by omega:j=0∨j=1∨j=2) with rfl|rfl|rfl
  ·cases hu;rw [Array.getElem?_setIfInBounds_ne (by omega),Array.getElem?_setIfInBounds_ne (by omega),Nat.add_zero,Array.getElem?_setIfInBounds_self_of_lt (by omega)]
  ·cases hu;rw [Array.getElem?_setIfInBounds_ne (by omega),Array.getElem?_setIfInBounds_self_of_lt (by simp;omega)]
  ·cases hu;rw [Array.getElem?_setIfInBounds_self_of_lt (by simp;omega)]
 ·rw [Array.getElem?_setIfInBounds_ne (by omega),Array.getElem?_setIfInBounds_ne (by omega),Array.getElem?_setIfInBounds_ne (by omega)];refine h i x hx j u ?_
  by_cases hi1:i<k
  ·rw [if_pos hi1];rw [if_pos (by omega)] at hu;exact hu
  ·rw [if_neg hi1];rw [if_neg (by omega)] at hu;exact hu
set_option maxHeartbeats 1600000 in
set_option maxRecDepth 100000 in
theorem of1 (e:EraV) (he:e.Fit) {r:Value} {l:List RuleV} {w:World} (hr:Holds w r l) (ht:Tab w) (hs:∀ x∈l,x.letter.size≤1000000) (hn:l.length≤100000):
 Calls prog 97 #[r,.agg e.cells.toArray] w fun x w'=>∃ b g,x=.returned (.pointer (some ⟨b,0,none⟩))∧View w' b l e r g∧Below w.heap.size w w':=by
 obtain ⟨rp,rc,rfl⟩:=hr.form;have HH:=kj hr;have HT:=kj ht;have Hs:=kj hs;unfold EraV.cells;clear hr ht hs;obtain ⟨n,hnl⟩:∃ n,n=l.length:=⟨_,rfl⟩;rw [← hnl] at hn ⊢;have HN:=kj hnl;clear hnl;obtain ⟨i0,hi,hz0,hz1,hz2⟩:=info_parts info_val;obtain ⟨Z,hZ⟩:∃ Z,Z=madeCells (Value.agg #[.int .i64 0,.int .i64 0,.string ⟨#[]⟩]).cells (n*3):=⟨_,rfl⟩;have hmk:∀ W:World,(Instr.makeSlice 209 (.int .i64 (n:Int)) (.int .i64 (n:Int))).run prog W=.ok (.slice (some ⟨W.heap.size,0,none⟩) n n) (W.alloc (.cells Z 30)):=by
  intro W;have:=run_make (P:=prog) W 209 30 i0 _ underlying209 hi hz0 .i64 .i64 n n (by omega) (Int.le_refl _) (by rw [hz2];omega) (by omega)
  simpa [hz1, ←hZ] using this
 have hZs:Z.size=n*3:=by rw [hZ];exact size_madeCells _ _
 have hZv:∀ (i j:Nat) (u:Value),i<n→(⟨0,0,⟨#[]⟩⟩:ValV).cells[j]? =some u→Z[i*3+j]? =some u:=by
  intro i j u hi hj;have hj3:j<3:=(List.getElem?_eq_some_iff.1 hj).1;rw [hZ];unfold madeCells;rw [Array.getElem?_map,Array.getElem?_range,if_pos (by omega)];rcases (by omega:j=0∨j=1∨j=2) with rfl|rfl|rfl
  ·simp only [Option.map_some];cases hj;change some ((#[.int .i64 0,.int .i64 0,.string ⟨#[]⟩]:Array Value)[(i*3+0)%3]!)=_;rw [show (i*3+0)%3=0 by omega];rfl
  ·simp only [Option.map_some];cases hj;change some ((#[.int .i64 0,.int .i64 0,.string ⟨#[]⟩]:Array Value)[(i*3+1)%3]!)=_;rw [show (i*3+1)%3=1 by omega];rfl
  ·simp only [Option.map_some];cases hj;change some ((#[.int .i64 0,.int .i64 0,.string ⟨#[]⟩]:Array Value)[(i*3+2)%3]!)=_;rw [show (i*3+2)%3=2 by omega];rfl
 have HZ:=kj hZ;clear hZ hi hz0 hz1 hz2;go_enter func97,ntmps97
 go_upto_region 1 with fail
 go_region
 have bE:Box ((((w.alloc (.cells #[.int .i64 e.off,.int .i64 e.kind,.int .i64 e.save,.string e.rules,.string e.format,.bool e.u.has,.int .i64 e.u.year,.int .i64 e.u.month,.int .i64 e.u.kind,.int .i64 e.u.week,.int .i64 e.u.day,.int .i64 e.u.sec,.int .i64 e.u.base] 53)).alloc (.cells Z 30)).alloc (.cells #[.int .i64 e.off,.int .i64 e.kind,.int .i64 e.save,.string e.rules,.string e.format,.bool e.u.has,.int .i64 e.u.year,.int .i64 e.u.month,.int .i64 e.u.kind,.int .i64 e.u.week,.int .i64 e.u.day,.int .i64 e.u.sec,.int .i64 e.u.base,.slice rp n rc,.slice (some ⟨w.heap.size+1,0,none⟩) n n] 211)).drew) w.heap.size #[.int .i64 e.off,.int .i64 e.kind,.int .i64 e.save,.string e.rules,.string e.format,.bool e.u.has,.int .i64 e.u.year,.int .i64 e.u.month,.int .i64 e.u.kind,.int .i64 e.u.week,.int .i64 e.u.day,.int .i64 e.u.sec,.int .i64 e.u.base] 53:=bxq;have bG:Box ((((w.alloc (.cells #[.int .i64 e.off,.int .i64 e.kind,.int .i64 e.save,.string e.rules,.string e.format,.bool e.u.has,.int .i64 e.u.year,.int .i64 e.u.month,.int .i64 e.u.kind,.int .i64 e.u.week,.int .i64 e.u.day,.int .i64 e.u.sec,.int .i64 e.u.base] 53)).alloc (.cells Z 30)).alloc (.cells #[.int .i64 e.off,.int .i64 e.kind,.int .i64 e.save,.string e.rules,.string e.format,.bool e.u.has,.int .i64 e.u.year,.int .i64 e.u.month,.int .i64 e.u.kind,.int .i64 e.u.week,.int .i64 e.u.day,.int .i64 e.u.sec,.int .i64 e.u.base,.slice rp n rc,.slice (some ⟨w.heap.size+1,0,none⟩) n n] 211)).drew) (w.heap.size+1) Z 30:=by
  refine Box.drew (Box.old ?_);have:=Box.new (w.alloc (.cells #[.int .i64 e.off,.int .i64 e.kind,.int .i64 e.save,.string e.rules,.string e.format,.bool e.u.has,.int .i64 e.u.year,.int .i64 e.u.month,.int .i64 e.u.kind,.int .i64 e.u.week,.int .i64 e.u.day,.int .i64 e.u.sec,.int .i64 e.u.base] 53)) Z 30
  rwa [World.size_alloc] at this
 have bV:Box ((((w.alloc (.cells #[.int .i64 e.off,.int .i64 e.kind,.int .i64 e.save,.string e.rules,.string e.format,.bool e.u.has,.int .i64 e.u.year,.int .i64 e.u.month,.int .i64 e.u.kind,.int .i64 e.u.week,.int .i64 e.u.day,.int .i64 e.u.sec,.int .i64 e.u.base] 53)).alloc (.cells Z 30)).alloc (.cells #[.int .i64 e.off,.int .i64 e.kind,.int .i64 e.save,.string e.rules,.string e.format,.bool e.u.has,.int .i64 e.u.year,.int .i64 e.u.month,.int .i64 e.u.kind,.int .i64 e.u.week,.int .i64 e.u.day,.int .i64 e.u.sec,.int .i64 e.u.base,.slice rp n rc,.slice (some ⟨w.heap.size+1,0,none⟩) n n] 211)).drew) (w.heap.size+1+1) #[.int .i64 e.off,.int .i64 e.kind,.int .i64 e.save,.string e.rules,.string e.format,.bool e.u.has,.int .i64 e.u.year,.int .i64 e.u.month,.int .i64 e.u.kind,.int .i64 e.u.week,.int .i64 e.u.day,.int .i64 e.u.sec,.int .i64 e.u.base,.slice rp n rc,.slice (some ⟨w.heap.size+1,0,none⟩) n n] 211:=by
  refine Box.drew ?_;have:=Box.new ((w.alloc (.cells #[.int .i64 e.off,.int .i64 e.kind,.int .i64 e.save,.string e.rules,.string e.format,.bool e.u.has,.int .i64 e.u.year,.int .i64 e.u.month,.int .i64 e.u.kind,.int .i64 e.u.week,.int .i64 e.u.day,.int .i64 e.u.sec,.int .i64 e.u.base] 53)).alloc (.cells Z 30)) #[.int .i64 e.off,.int .i64 e.kind,.int .i64 e.save,.string e.rules,.string e.format,.bool e.u.has,.int .i64 e.u.year,.int .i64 e.u.month,.int .i64 e.u.kind,.int .i64 e.u.week,.int .i64 e.u.day,.int .i64 e.u.sec,.int .i64 e.u.base,.slice rp n rc,.slice (some ⟨w.heap.size+1,0,none⟩) n n] 211
  rwa [World.size_alloc,World.size_alloc] at this
 have hB1:Below w.heap.size w ((((w.alloc (.cells #[.int .i64 e.off,.int .i64 e.kind,.int .i64 e.save,.string e.rules,.string e.format,.bool e.u.has,.int .i64 e.u.year,.int .i64 e.u.month,.int .i64 e.u.kind,.int .i64 e.u.week,.int .i64 e.u.day,.int .i64 e.u.sec,.int .i64 e.u.base] 53)).alloc (.cells Z 30)).alloc (.cells #[.int .i64 e.off,.int .i64 e.kind,.int .i64 e.save,.string e.rules,.string e.format,.bool e.u.has,.int .i64 e.u.year,.int .i64 e.u.month,.int .i64 e.u.kind,.int .i64 e.u.week,.int .i64 e.u.day,.int .i64 e.u.sec,.int .i64 e.u.base,.slice rp n rc,.slice (some ⟨w.heap.size+1,0,none⟩) n n] 211)).drew):=bcq;generalize ((((w.alloc (.cells #[.int .i64 e.off,.int .i64 e.kind,.int .i64 e.save,.string e.rules,.string e.format,.bool e.u.has,.int .i64 e.u.year,.int .i64 e.u.month,.int .i64 e.u.kind,.int .i64 e.u.week,.int .i64 e.u.day,.int .i64 e.u.sec,.int .i64 e.u.base] 53)).alloc (.cells Z 30)).alloc (.cells #[.int .i64 e.off,.int .i64 e.kind,.int .i64 e.save,.string e.rules,.string e.format,.bool e.u.has,.int .i64 e.u.year,.int .i64 e.u.month,.int .i64 e.u.kind,.int .i64 e.u.week,.int .i64 e.u.day,.int .i64 e.u.sec,.int .i64 e.u.base,.slice rp n rc,.slice (some ⟨w.heap.size+1,0,none⟩) n n] 211)).drew)=X at *;have hF0:Filled l e 0 Z:=fun i x hx j u hu=>hZv i j u (by have:=(List.getElem?_eq_some_iff.1 hx).1;rw [HN.out];exact this) (by simpa using hu);clear hZv hmk;obtain ⟨p1,hp1⟩:∃ p,p=w.heap.size+1:=⟨_,rfl⟩;obtain ⟨p2,hp2⟩:∃ p,p=w.heap.size+1+1:=⟨_,rfl⟩;rw [← hp2] at bV ⊢;rw [← hp1] at bG bV ⊢;have hq1:w.heap.size<p1∧p1<p2:=by omega
 clear hp1 hp2;go_wp2
 go_loopw [17] (fun i wr=>∃ k:Nat,i=.int .i64 k∧k≤n∧Below w.heap.size w wr∧Box wr w.heap.size #[.int .i64 e.off,.int .i64 e.kind,.int .i64 e.save,.string e.rules,.string e.format,.bool e.u.has,.int .i64 e.u.year,.int .i64 e.u.month,.int .i64 e.u.kind,.int .i64 e.u.week,.int .i64 e.u.day,.int .i64 e.u.sec,.int .i64 e.u.base] 53∧Box wr p2 #[.int .i64 e.off,.int .i64 e.kind,.int .i64 e.save,.string e.rules,.string e.format,.bool e.u.has,.int .i64 e.u.year,.int .i64 e.u.month,.int .i64 e.u.kind,.int .i64 e.u.week,.int .i64 e.u.day,.int .i64 e.u.sec,.int .i64 e.u.base,.slice rp n rc,.slice (some ⟨p1,0,none⟩) n n] 211∧∃ C:Array Value,Box wr p1 C 30∧C.size=n*3∧Filled l e k C) (fun i _=>n-(intOf i).toNat)
 case atStart=>exact ⟨0,rfl,Nat.zero_le _,hB1,bE,bV,Z,bG,hZs,hF0⟩
 case round=>
  clear hB1 bE bG bV hF0 hZs;obtain ⟨k,rfl,hk,hbel,bE,bV,C,bG,hC,hF⟩:=hrel;have HF:=kj hF;have HBE:=kj bE;have HBV:=kj bV;have HBG:=kj bG;have HbW:=kj hbel;have cE:=bE.cell;have cV:=bV.cell;have lE:=bE.lt;have lG:=bG.lt;have lV:=bV.lt;clear hF bE bV bG hbel
  by_cases hlt:k<n
  ·obtain ⟨x,hx⟩:∃ x,l[k]? =some x:=⟨l[k]'(by rw [← HN.out];exact hlt),by simp⟩;obtain ⟨b,off,cap,hq,hb,hcl⟩:=hat HH.out hx;simp only [Value.slice.injEq] at hq;obtain ⟨rfl, -,rfl⟩:=hq;have hd:∀ (j:Nat) (u:Value),x.cells[j]? =some u→wr.cell? ⟨b,off+k*11+j,none⟩=some u:=fun j u hu=>(HbW.out.cell (p:=⟨b,off+k*11+j,none⟩) hb).trans (hcl j u hu);have hbU:b<wr.heap.size:=Nat.lt_of_lt_of_le hb HbW.out.size;have d0:=hd 0 _ rfl;have d1:=hd 1 _ rfl;have d2:=hd 2 _ rfl;have d3:=hd 3 _ rfl;have d4:=hd 4 _ rfl;have d5:=hd 5 _ rfl;have d6:=hd 6 _ rfl;have d7:=hd 7 _ rfl;have d8:=hd 8 _ rfl;have d9:=hd 9 _ rfl;have d10:=hd 10 _ rfl;simp only [Nat.add_zero] at d0;have hlx:=Hs.out x (List.mem_of_getElem? hx);have Hx:=kj hx;clear hd hcl hx
   by_cases hnm:x.name=e.rules
   case neg=>
    have e1:=str_ne hnm;have Hnm:=kj hnm;clear hnm;go_wp2;have hbel:=HbW.out;have bE:=HBE.out;have bV:=HBV.out;have bG:=HBG.out;go_roundw
    case rel=>exact ⟨k+1,by go_num,hlt,bcq,bxq,bxq,C,bxq,hC,HF.out.skip Hx.out Hnm.out⟩
    case measure=>simp [intOf];omega
   case pos=>
    have e1:=str_eq hnm;have Hnm:=kj hnm;clear hnm
    go_upto_region 6 with fail
    obtain ⟨v0,hv0⟩:∃ v,C[k*3]? =some v:=⟨C[k*3]'(by omega),by simp⟩;obtain ⟨v1,hv1⟩:∃ v,C[k*3+1]? =some v:=⟨C[k*3+1]'(by omega),by simp⟩;obtain ⟨v2,hv2⟩:∃ v,C[k*3+2]? =some v:=⟨C[k*3+2]'(by omega),by simp⟩;have bG:=HBG.out;have g0:=(bG.cell (k*3)).trans hv0;have g1:=(bG.cell (k*3+1)).trans hv1;have g2:=(bG.cell (k*3+2)).trans hv2;have f0:=bG.free (k*3);have f1:=bG.free (k*3+1);have f2:=bG.free (k*3+2);clear bG d0 d1 d2 d3 d4 d5 d6 d7 d8 d9 d10 cE;obtain ⟨y,hy⟩:∃ y,y=valO e x:=⟨_,rfl⟩;have cval:∀ W,Box W p2 (viewC e (.slice (some ⟨b,off,none⟩) n rc) p1 n) 211→Tab W→Calls prog 158 #[.pointer (some ⟨p2,0,none⟩),.int .i64 x.save,.string x.letter] W fun z w'=>z=.returned (.agg #[.int .i64 y.off,.int .i64 y.save,.string y.abbr])∧Below W.heap.size W w':=fun W h h'=>by rw [hy];exact value e he.f (.slice (some ⟨b,off,none⟩) n rc) p1 n p2 x.save x.letter hlx W h h'
    have Cval:=kj cval;have HY:=kj hy;clear hy;clear cval
    go_region_with ((go_at_call 158);(with_reducible refine (Cval.out _ ?_ ?_).mono ?_);(· have bV:=HBV.out;unfold viewC;exact bxq);(· exact HT.out.later (bt HbW.out bcq));rintro e2 w2 ⟨rfl,hb2⟩;obtain ⟨hc2_0,hf2_0,_⟩:=bcs hb2 (p1);obtain ⟨hc2_1,hf2_1,_⟩:=bcs hb2 (p2);obtain ⟨hc2_2,hf2_2,_⟩:=bcs hb2 (wr.heap.size))
    all_goals
     have hput:=HF.out.put (by rw [← HN.out];exact hC) Hx.out Hnm.out;rw [← HY.out] at hput;have HP:=kj hput;have bG2:Box w2 p1 C 30:=by have bG:=HBG.out;exact bxq
     have bE2:Box w2 w.heap.size #[.int .i64 e.off,.int .i64 e.kind,.int .i64 e.save,.string e.rules,.string e.format,.bool e.u.has,.int .i64 e.u.year,.int .i64 e.u.month,.int .i64 e.u.kind,.int .i64 e.u.week,.int .i64 e.u.day,.int .i64 e.u.sec,.int .i64 e.u.base] 53:=by have bE:=HBE.out;exact bxq
     have bV2:Box w2 p2 #[.int .i64 e.off,.int .i64 e.kind,.int .i64 e.save,.string e.rules,.string e.format,.bool e.u.has,.int .i64 e.u.year,.int .i64 e.u.month,.int .i64 e.u.kind,.int .i64 e.u.week,.int .i64 e.u.day,.int .i64 e.u.sec,.int .i64 e.u.base,.slice (some ⟨b,off,none⟩) n rc,.slice (some ⟨p1,0,none⟩) n n] 211:=by have bV:=HBV.out;exact bxq
     have hbl2:Below w.heap.size w w2:=by have hbel:=HbW.out;exact bcq
     have HG2:=kj bG2;have HE2:=kj bE2;have HV2:=kj bV2;have HL2:=kj hbl2;clear hput bG2 bE2 bV2 hbl2 hb2 hc2_0 hf2_0 hc2_1 hf2_1 hc2_2 hf2_2 g0 g1 g2 f0 f1 f2 hv0 hv1 hv2 cV;go_wp2;go_roundw
     case rel=>exact ⟨k+1,by go_num,hlt,bset (bset (bset HL2.out (by omega)) (by omega)) (by omega),((HE2.out.other (by omega)).other (by omega)).other (by omega),((HV2.out.other (by omega)).other (by omega)).other (by omega),_,((HG2.out.set).set).set,by simp [hC],HP.out⟩
     case measure=>simp [intOf];omega
  ·clear cE cV;go_wp2;have bV:=HBV.out;have bG:=HBG.out;go_ret;have hkn:k=n:=by omega
   subst hkn;have hn':=HN.out;subst hn';refine ⟨p2,p1,rfl,⟨bV,HH.out.later HbW.out,lG,fun i x hx j u hu=> ?_⟩,HbW.out⟩;rw [bG.cell];have hil:=(List.getElem?_eq_some_iff.1 hx).1;exact HF.out i x hx j u (by rw [if_pos hil];exact hu)
end Frc
end
end Go.Proofs.YtgmfojgnjdpofaaGreatDoor
