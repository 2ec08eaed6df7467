import Derived.Maps.AppendAt
import Derived.RangeFuncBox
import Derived.Test.YtgmfojgnjdpofaaGreatDoorG31
import Derived.Test.YtgmfojgnjdpofaaGreatDoorG3
import Derived.Test.YtgmfojgnjdpofaaGreatDoorG13
import Derived.Test.YtgmfojgnjdpofaaGreatDoorG27
namespace Go.Proofs.YtgmfojgnjdpofaaGreatDoor
section
open Go.RowKit Go.Shelf NB
attribute [local go_sem] Oper.semAt_some
namespace Chg
open Pt
theorem SRight (a b:Int) (w:World):Calls Tryz.prog 57 #[.agg #[.int .i64 a,.int .i64 b]] w fun e w'=>e= .returned (.bool (decide (a<b)))∧Below w.heap.size w w':=by
 go_enter Tryz.func57,Tryz.ntmps57
 go_wp2
 go_ret
 exact ⟨rfl,bcq⟩
theorem box_own {β:Type} (B:Nat) (cs:β→Array Value) (t:TypeId):Own (fun (b:β) W=>Box W B (cs b) t):=fun s X Y row hs hg hrow=>by
 refine (hg.block B hs.lt (fun e'=> ?_)).trans hs
 obtain ⟨o,ho,hc⟩:=hrow B e'.symm
 rw [show X.heap[B]? =_ from hs] at ho
 cases ho
 cases hc
def cnt (tt:Int):Nat→List Int→Nat
 |0,_=>0
 |_+1,[]=>0
 |m+1,x :: xs=>if x<tt then cnt tt m xs+1 else 0
theorem cnt_all {tt:Int}:∀ {m:Nat} {xs:List Int},(∀ o∈xs,o<tt)→xs.length≤m→cnt tt m xs=xs.length
 |0,[],_,_=>rfl
 |0,_ :: _,_,h=>by simp at h
 |_+1,[],_,_=>rfl
 |m+1,x :: xs,h,hl=>by
  unfold cnt
  rw [if_pos (h x (by simp)),cnt_all (fun o ho=>h o (by simp [ho])) (by simpa using hl)]
  rfl
theorem cnt_cut {tt:Int}:∀ {m:Nat} {L xs:List Int} {x:Int},L++[x] <+: xs→(∀ o∈L,o<tt)→tt≤x→L.length<m→cnt tt m xs=L.length
 |0,_,_,_,_,_,_,h=>by omega
 |m+1,[],xs,x,hp,_,hx,_=>by
  obtain ⟨r,rfl⟩:=hp
  show (if x<tt then _ else 0)=0
  rw [if_neg (by omega)]
 |m+1,y :: L,xs,x,hp,h,hx,hl=>by
  obtain ⟨r,rfl⟩:=hp
  show (if y<tt then cnt tt m (L++[x]++r)+1 else 0)=L.length+1
  rw [if_pos (h y (by simp)),cnt_cut (L:=L) (x:=x) ⟨r,rfl⟩ (fun o ho=>h o (by simp [ho])) hx (by simpa using hl)]
theorem cnt_full {tt:Int}:∀ {m:Nat} {L xs:List Int},L <+: xs→(∀ o∈L,o<tt)→L.length=m→cnt tt m xs=m
 |0,_,_,_,_,_=>rfl
 |m+1,[],_,_,_,h=>by simp at h
 |m+1,y :: L,xs,hp,h,hl=>by
  obtain ⟨r,rfl⟩:=hp
  show (if y<tt then cnt tt m (L++r)+1 else 0)=m+1
  rw [if_pos (h y (by simp)),cnt_full (L:=L) ⟨r,rfl⟩ (fun o ho=>h o (by simp [ho])) (by simpa using hl)]
variable {F:Fence} {n:Nat}
set_option maxRecDepth 100000 in
set_option maxHeartbeats 3200000 in
theorem count1 (h16:F.fn 17) (h19:F.fn 20) (h35:F.fn 57) (h36:F.fn 58) (h64:F.fn 104) (hro:F.round=none) (hn:4≤n) (t:TabV) (ok:Ok t) (hc:(Chk.check t.rs).2=0) (zone fr tt most:Int) (hfr:I64 fr) (w:World)
 (hS:∀ V:World,CallsIn F (n-1) Tryz.prog 57 #[.agg #[.int .i64 fr,.int .i64 tt]] V fun e V'=>e= .returned (.bool (decide (fr<tt)))∧Below V.heap.size V V')
 (hA:∀ (p q r:Option Addr) (n1 n2 n3 c1 c2 c3:Nat) (s:Int) (V:World),CallsIn F (n-1) Tryz.prog 58 #[.agg #[.slice p n1 c1,.slice q n2 c2,.slice r n3 c3],.int .i64 zone,.int .i64 s] V fun e V'=>
   e= .returned (.func (.func 104) #[] #[.pointer (some ⟨V.heap.size,0,none⟩),.pointer (some ⟨V.heap.size+1,0,none⟩),.pointer (some ⟨V.heap.size+1+1,0,none⟩)])∧
   V'=((V.alloc (.cells #[.slice p n1 c1,.slice q n2 c2,.slice r n3 c3] 26)).alloc (.cells #[.int .i64 zone] 3)).alloc (.cells #[.int .i64 s] 2))
 (hN:∀ (V:World) (c:Int) (r:Int×Bool),Below w.heap.size w V→I64 c→NextT t zone c r→CallsIn F (n-1-1) Tryz.prog 17 #[.agg #[t.rv,t.zv,t.lv],.int .i64 zone,.int .i64 c] V fun e V'=>e= .returned (.tuple #[.int .i64 r.1,.bool r.2])∧Below V.heap.size V V'∧V.heap.size<V'.heap.size)
 (hf:∃ p q r n1 n2 n3 c1 c2 c3,t.rv= .slice p n1 c1∧t.zv= .slice q n2 c2∧t.lv= .slice r n3 c3)
 (hlt:fr<tt) (hmost:1≤most) (hmax:most≤100000) {xs:List Int} (hx:Runs t zone (max fr (-1096193779199)-1) xs):
 CallsIn F n Tryz.prog 20 #[.agg #[t.rv,t.zv,t.lv],.int .i64 zone,.agg #[.int .i64 fr,.int .i64 tt],.int .i64 most] w fun e w'=>e= .returned (.int .i64 (cnt tt most.toNat xs))∧Below w.heap.size w w':=by
 have hf':=hf
 obtain ⟨p,q,r,n1,n2,n3,k1,k2,k3,f1,f2,f3⟩:=hf'
 have h1:1≤n:=by omega
 have hS0:=fun V=>hS V
 rw [show decide (fr<tt)=true by simpa using hlt] at hS0
 have hMb: -1096193779199≤max fr (-1096193779199)∧max fr (-1096193779199)≤9223372036854775807:=by unfold I64 at hfr;omega
 refine callsIn_of_wp_marks Tryz.func20 rfl h19 ?_ hro
 simp only [Tryz.ntmps20,List.size_toArray,List.length_cons,List.length_nil,Nat.reduceAdd,Nat.reduceSub,Array.replicate_succ,Array.replicate_zero,List.push_toArray,List.append_toArray,List.nil_append,List.cons_append]
 rw [f1,f2,f3]
 have HA:=Lib.hid hA
 have HS:=Lib.hid hS0
 have HN:=Lib.hid hN
 have Hx:=Lib.hid hx
 have HF:=Lib.hid hf
 have HOK:=Lib.hid (And.intro ok hc)
 have HFF:=Lib.hid (And.intro f1 (And.intro f2 f3))
 have HMB:=Lib.hid hMb
 clear hS hS0 hA hN hx hf ok hc f1 f2 f3
 gi_wp2_with (first
  |(gi_at_call 57;refine (HS.out _).mono ?_;rintro e w1 ⟨rfl,hb1⟩;obtain ⟨hc1,hf1⟩:=bcell hb1)
  |(gi_at_call 58;refine (HA.out _ _ _ _ _ _ _ _ _ _ _).mono ?_;rintro e w2 ⟨rfl,hw2⟩))
 obtain ⟨V,hV⟩:∃ V,V=(((w.alloc (.cells #[.slice p n1 k1,.slice q n2 k2,.slice r n3 k3] 26)).alloc (.cells #[.int .i64 fr,.int .i64 tt] 40)).alloc (.cells #[.int .i64 most] 3)).alloc (.cells #[.int .i64 0] 3):=⟨_,rfl⟩
 have hVs:V.heap.size=w.heap.size+4:=by rw [hV];simp
 have hVB:Below w.heap.size w V:=by rw [hV];exact ba (ba (ba (ba (Below.refl _ _))))
 have hVn:Box V (w.heap.size+1+1+1) #[.int .i64 0] 3:=by
  rw [hV]
  have:=Box.new (((w.alloc (.cells #[.slice p n1 k1,.slice q n2 k2,.slice r n3 k3] 26)).alloc (.cells #[.int .i64 fr,.int .i64 tt] 40)).alloc (.cells #[.int .i64 most] 3)) #[.int .i64 0] 3
  simpa using this
 have hVm:Box V (w.heap.size+1+1) #[.int .i64 most] 3:=by
  rw [hV]
  have:=Box.new ((w.alloc (.cells #[.slice p n1 k1,.slice q n2 k2,.slice r n3 k3] 26)).alloc (.cells #[.int .i64 fr,.int .i64 tt] 40)) #[.int .i64 most] 3
  simp only [World.size_alloc] at this
  exact this.old
 have hVp:Box V (w.heap.size+1) #[.int .i64 fr,.int .i64 tt] 40:=by
  rw [hV]
  have:=Box.new (w.alloc (.cells #[.slice p n1 k1,.slice q n2 k2,.slice r n3 k3] 26)) #[.int .i64 fr,.int .i64 tt] 40
  simp only [World.size_alloc] at this
  exact this.old.old
 rw [← hV] at hb1
 have hs1:=hb1.size
 obtain ⟨X,hX⟩:∃ X,X=((w1.alloc (.cells #[.slice p n1 k1,.slice q n2 k2,.slice r n3 k3] 26)).alloc (.cells #[.int .i64 zone] 3)).alloc (.cells #[.int .i64 (max fr (-1096193779199)-1)] 2):=⟨_,rfl⟩
 have hXs:X.heap.size=w1.heap.size+3:=by rw [hX];simp
 have hX1:Below w1.heap.size w1 X:=by rw [hX];exact ba (ba (ba (Below.refl _ _)))
 have hXV:Below V.heap.size V X:=hb1.trans (hX1.mono hb1.size)
 have hXB:Below w.heap.size w X:=hVB.trans (hXV.mono hVB.size)
 have hEX:Env X w1.heap.size t.rv t.zv t.lv zone (max fr (-1096193779199)-1):=by
  rw [HFF.out.1,HFF.out.2.1,HFF.out.2.2,hX]
  refine ⟨((Box.new _ _ _).old).old,?_,?_⟩
  ·have:=Box.new (w1.alloc (.cells #[.slice p n1 k1,.slice q n2 k2,.slice r n3 k3] 26)) #[.int .i64 zone] 3
   simp only [World.size_alloc] at this
   exact this.old
  ·have:=Box.new ((w1.alloc (.cells #[.slice p n1 k1,.slice q n2 k2,.slice r n3 k3] 26)).alloc (.cells #[.int .i64 zone] 3)) #[.int .i64 (max fr (-1096193779199)-1)] 2
   simpa using this
 rw [← hX]
 clear hX hV hb1 hX1
 have bN:Box X (w.heap.size+1+1+1) #[.int .i64 0] 3:=hVn.later hXV
 have bM:Box X (w.heap.size+1+1) #[.int .i64 most] 3:=hVm.later hXV
 have bP:Box X (w.heap.size+1) #[.int .i64 fr,.int .i64 tt] 40:=hVp.later hXV
 clear hVn hVm hVp hXV hVB
 refine Rng.range hro h1 (gf:=104) (lb:= #[.pointer (some ⟨w1.heap.size,0,none⟩),.pointer (some ⟨w1.heap.size+1,0,none⟩),.pointer (some ⟨w1.heap.size+1+1,0,none⟩)]) rfl h64 (enters_of Tryz.func104 (by kernel_rfl) rfl)
  (encs:=fun o:Int=> #[.int .i64 o]) (xs:=xs) (Kp:=Kp w.heap.size w1.heap.size)
  (fun W hW hWs=>all1 h16 h64 hro (by omega) w t HOK.out.1 HOK.out.2 zone (max fr (-1096193779199)-1) (by have:=HMB.out;unfold I64;omega) w1.heap.size xs W HN.out HF.out Hx.out (hXB.trans (hW.mono hXB.size)) (by omega) (hEX.later hW) (by omega))
  (fun h k=>⟨h.1.trans k.1,fun j a b=>(k.2.1 j a b).trans (h.2.1 j a b),k.2.2.trans h.2.2⟩)
  (fun c W lp o o' h2 h3 h4 h5=>⟨(Below.refl w.heap.size W).grown (grownBy_putObj' W lp o') (by have:=(Array.getElem?_eq_some_iff.1 h5).1;omega) (fun k e=>by cases e;omega),fun k a b=>World.putObj_heap_other (by omega),World.putObj_heap_other (by omega)⟩)
  (fun _=>rfl)
  (fun c pre W=>(Box W (w.heap.size+1+1+1) #[.int .i64 (pre.length:Nat)] 3∧Box W (w.heap.size+1+1) #[.int .i64 most] 3∧Box W (w.heap.size+1) #[.int .i64 fr,.int .i64 tt] 40)∧((∀ o∈pre,o<tt)∧(pre.length:Int)<most)∧Below w.heap.size w W)
  (fun c pre W=>∃ L:List Int,(c= .exit 0∧((∃ x,pre=L++[x]∧(∀ o∈L,o<tt)∧tt≤x∧(L.length:Int)<most)∨(pre=L∧(∀ o∈L,o<tt)∧(L.length:Int)=most)))∧Box W (w.heap.size+1+1+1) #[.int .i64 (L.length:Nat)] 3∧Below w.heap.size w W)
  ?hI ?hIc ?hIx ?h0
  (fun c x a' W=>a'={ tmps:= #[.agg #[.slice p n1 k1,.slice q n2 k2,.slice r n3 k3],.int .i64 zone,.agg #[.int .i64 fr,.int .i64 tt],.int .i64 most,.pointer (some ⟨w.heap.size,0,none⟩),undef,.pointer (some ⟨w.heap.size+1,0,none⟩),.pointer (some ⟨w.heap.size+1+1,0,none⟩),.int .i64 0,.pointer (some ⟨w.heap.size+1+1+1,0,none⟩),.int .i64 x,.agg #[.int .i64 fr,.int .i64 tt],.bool true,.bool false,.bool false,.int .i64 most,.bool (decide (most<1)),.bool (decide (most<1)),undef,.agg #[.slice p n1 k1,.slice q n2 k2,.slice r n3 k3],.int .i64 zone,.pointer (some ⟨w.heap.size+1,0,none⟩),.int .i64 fr,.int .i64 (max fr (-1096193779199)),.int .i64 (max fr (-1096193779199)-1),.func (.func 104) #[] #[.pointer (some ⟨w1.heap.size,0,none⟩),.pointer (some ⟨w1.heap.size+1,0,none⟩),.pointer (some ⟨w1.heap.size+1+1,0,none⟩)],.int .i64 x,undef,undef,undef,undef,undef,undef,undef,undef,undef,undef],defers:=[]})
  ?hAx ?assign ?body ?done ?stop
 case hI=>
  intro c
  refine OwnFrom.and (OwnFrom.and (Own.from (box_own (w.heap.size+1+1+1) (fun pre:List Int=> #[.int .i64 (pre.length:Nat)]) 3) _) (OwnFrom.and (Own.from (box_own _ (fun _=>_) _) _) (Own.from (box_own _ (fun _=>_) _) _))) (OwnFrom.and (ownFrom_pure _ _) (ownFrom_below (Nat.le_refl _) (by omega)))
 case hIc=>
  rintro c pre A o v hc ⟨⟨hn',hm,hp⟩,hpure,hB⟩
  exact ⟨⟨hn'.other (by omega),hm.other (by omega),hp.other (by omega)⟩,hpure,hB.setCell (p:=⟨c,o,none⟩) (by show _≤c;omega) _⟩
 case hIx=>
  rintro c pre W V row ⟨L,h2,h3,h4⟩ hg hr
  exact ⟨L,h2,box_own (β:=Unit) _ (fun _=>_) _ () W V row h3 hg (fun r e=>(hr r e).2),ownFrom_below (β:=Unit) (Nat.le_refl w.heap.size) (by omega) () W V row h4 hg hr⟩
 case h0=>
  intro c hc
  exact ⟨⟨bN,bM,bP⟩,⟨by simp,by simp;omega⟩,hXB⟩
 case hAx=>
  rintro c x a' s W V row h3 hg hr
  exact h3
 case assign=>
  rintro lp c pre x W K hc hcW hII hK
  simp only at hK ⊢
  gi_wp2
  exact hK _ _ (KeepsFrom.refl _ _) ⟨Below.refl _ _,fun k a b=>rfl,rfl⟩ hII rfl
 case body=>
  rintro lp c pre x a' W hc hcW ⟨⟨hn',hm,hp⟩,⟨hpure,hlen⟩,hB⟩ rfl
  simp only []
  have hBs:=hB.size
  have cn0:=hn'.cell 0
  have fn0:=hn'.free 0
  have cp0:=hp.cell 0
  have cp1:=hp.cell 1
  have cm0:=hm.cell 0
  have h1':1≤n-1-1:=by omega
  have Hn:=Lib.hid hn'
  have Hp:=Lib.hid hp
  have Hm:=Lib.hid hm
  have HB:=Lib.hid hB
  have Hpure:=Lib.hid hpure
  clear hn' hp hm hB hpure
  by_cases hxn:tt≤x
  ·gi_wp2
   exact ⟨KeepsFrom.refl _ _,pre,⟨rfl,.inl ⟨x,rfl,Hpure.out,hxn,hlen⟩⟩,Hn.out,HB.out⟩
  ·have hall:∀ o∈pre++[x],o<tt:=by
    intro o ho
    rcases List.mem_append.1 ho with h|h
    ·exact Hpure.out o h
    ·simp only [List.mem_singleton] at h
     subst h
     omega
   have Hall:=Lib.hid hall
   clear hall
   have hlx:(pre++[x]).length=pre.length+1:=by simp
   by_cases hlm:(pre.length:Int)+1=most
   ·subst hlm
    have hst:Box (W.setCell ⟨w.heap.size+1+1+1,0,none⟩ (.int .i64 ((pre.length:Int)+1))) (w.heap.size+1+1+1) #[.int .i64 ((pre++[x]).length:Nat)] 3:=by
     have:=Hn.out.set (j:=0) (v:= .int .i64 ((pre.length:Int)+1))
     rw [hlx]
     simpa using this
    have HST:=Lib.hid hst
    clear hst
    gi_wp2
    exact ⟨(KeepsOthers.setCell _ _ _).from _,pre++[x],⟨rfl,.inr ⟨rfl,Hall.out,by rw [hlx];omega⟩⟩,HST.out,HB.out.setCell (p:=⟨w.heap.size+1+1+1,0,none⟩) (by show _≤w.heap.size+1+1+1;omega) _⟩
   ·have hst:Box (W.setCell ⟨w.heap.size+1+1+1,0,none⟩ (.int .i64 ((pre.length:Int)+1))) (w.heap.size+1+1+1) #[.int .i64 ((pre++[x]).length:Nat)] 3:=by
     have:=Hn.out.set (j:=0) (v:= .int .i64 ((pre.length:Int)+1))
     rw [hlx]
     simpa using this
    have HST:=Lib.hid hst
    clear hst
    gi_wp2
    have hBk:Below w.heap.size W (W.setCell ⟨w.heap.size+1+1+1,0,none⟩ (.int .i64 ((pre.length:Int)+1))):=(Below.refl _ _).setCell (p:=⟨w.heap.size+1+1+1,0,none⟩) (by show _≤w.heap.size+1+1+1;omega) _
    exact ⟨(KeepsOthers.setCell _ _ _).from _,⟨hBk,fun k a b=>Below.heap_setCell W ⟨w.heap.size+1+1+1,0,none⟩ _ k (by show k≠w.heap.size+1+1+1;omega),Below.heap_setCell W ⟨w.heap.size+1+1+1,0,none⟩ _ c (by show c≠w.heap.size+1+1+1;omega)⟩,⟨HST.out,Hm.out.other (by omega),Hp.out.other (by omega)⟩,⟨Hall.out,by rw [hlx];omega⟩,HB.out.trans hBk⟩
 case done=>
  rintro D c W hD hcD ⟨⟨hn',hm,hp⟩,⟨hpure,hlen⟩,hB⟩ hK
  have cu:=hn'.cell 0
  gi_wp2
  refine ⟨by simp,.inl ⟨_,_,rfl,run_takeDeferred hK,?_⟩⟩
  have hD0:w.heap.size≤D:=by omega
  rw [cnt_all hpure (by omega)]
  exact ⟨_,results_tmp rfl _ _ _,rfl,hB.trans (belowK_b (w:=w) (Nat.le_refl _) W D _ _ hD0 hK rfl rfl)⟩
 case stop=>
  rintro D c pre W hD hpre ⟨L,⟨rfl,hL⟩,hn',hB⟩ hK
  have cu:=hn'.cell 0
  gi_wp2
  refine ⟨by simp,.inl ⟨_,_,rfl,run_takeDeferred hK,?_⟩⟩
  have hD0:w.heap.size≤D:=by omega
  have e:cnt tt most.toNat xs=L.length:=by
   rcases hL with ⟨x,rfl,h2,h3,h4⟩|⟨rfl,h2,h3⟩
   ·exact cnt_cut hpre h2 h3 (by omega)
   ·rw [cnt_full hpre h2 (by omega)];omega
  rw [e]
  exact ⟨_,results_tmp rfl _ _ _,rfl,hB.trans (belowK_b (w:=w) (Nat.le_refl _) W D _ _ hD0 hK rfl rfl)⟩
theorem count0 (p q r:Option Addr) (n1 n2 n3 c1 c2 c3:Nat) (zone fr tt most:Int) (w:World) (h:¬fr<tt∨most<1):
 Calls Tryz.prog 20 #[.agg #[.slice p n1 c1,.slice q n2 c2,.slice r n3 c3],.int .i64 zone,.agg #[.int .i64 fr,.int .i64 tt],.int .i64 most] w fun e w'=>e= .returned (.int .i64 0)∧Below w.heap.size w w':=by
 have cs:=fun W=>SRight fr tt W
 by_cases h0:fr<tt
 ·have hm:most<1:=h.elim (fun x=>(x h0).elim) id
  rw [show decide (fr<tt)=true by simpa using h0] at cs
  have Cs:=Lib.hid cs
  clear cs h
  go_enter Tryz.func20,Tryz.ntmps20
  go_wp2_with (go_at_call 57;(with_reducible refine (Cs.out _).mono ?_);rintro e w1 ⟨rfl,hb1⟩;obtain ⟨hc1_0,hf1_0,hz1_0⟩:=bcs hb1 (w.heap.size);obtain ⟨hc1_1,hf1_1,hz1_1⟩:=bcs hb1 (w.heap.size+1);obtain ⟨hc1_2,hf1_2,hz1_2⟩:=bcs hb1 (w.heap.size+1+1);obtain ⟨hc1_3,hf1_3,hz1_3⟩:=bcs hb1 (w.heap.size+1+1+1))
  go_ret
  exact ⟨rfl,bcq⟩
 ·rw [show decide (fr<tt)=false by simpa using h0] at cs
  have Cs:=Lib.hid cs
  clear cs h
  go_enter Tryz.func20,Tryz.ntmps20
  go_wp2_with (go_at_call 57;(with_reducible refine (Cs.out _).mono ?_);rintro e w1 ⟨rfl,hb1⟩;obtain ⟨hc1_0,hf1_0,hz1_0⟩:=bcs hb1 (w.heap.size);obtain ⟨hc1_1,hf1_1,hz1_1⟩:=bcs hb1 (w.heap.size+1);obtain ⟨hc1_2,hf1_2,hz1_2⟩:=bcs hb1 (w.heap.size+1+1);obtain ⟨hc1_3,hf1_3,hz1_3⟩:=bcs hb1 (w.heap.size+1+1+1))
  go_ret
  exact ⟨rfl,bcq⟩
theorem CountC {w:World} {t:TabV} (ht:HoldsT w t) (ok:Ok t) (tb:Tab w) (hst:Sta w) (hc:(Chk.check t.rs).2=0) (zone fr tt most:Int) (hfr:I64 fr) (hmax:most≤100000) {xs:List Int} (hx:Runs t zone (max fr (-1096193779199)-1) xs):
 Calls Tryz.prog 20 #[.agg #[t.rv,t.zv,t.lv],.int .i64 zone,.agg #[.int .i64 fr,.int .i64 tt],.int .i64 most] w fun e w'=>e= .returned (.int .i64 (if fr<tt∧1≤most then (cnt tt most.toNat xs:Int) else 0))∧Below w.heap.size w w':=by
 obtain ⟨p,c1,e1⟩:=ht.r.form
 obtain ⟨q,c2,e2⟩:=ht.z.form
 obtain ⟨r,c3,e3⟩:=ht.l.form
 by_cases h:fr<tt∧1≤most
 ·rw [if_pos h]
  exact (callsIn_wide (n:=9)).1 (count1 (F:=Fence.wide) trivial trivial trivial trivial trivial rfl (by omega) t ok hc zone fr tt most hfr w (fun V=>callsIn_wide.2 (SRight fr tt V)) (fun p q r n1 n2 n3 c1 c2 c3 s V=>callsIn_wide.2 (All p q r n1 n2 n3 c1 c2 c3 zone s V)) (fun V c r hV hcI hr=>callsIn_wide.2 (NextA (ht.later hV) ok (tb.later hV) (hst.later hV) hc zone c hcI hr)) ⟨p,q,r,_,_,_,c1,c2,c3,e1,e2,e3⟩ h.1 h.2 hmax hx)
 ·rw [if_neg h,e1,e2,e3]
  exact count0 p q r _ _ _ c1 c2 c3 zone fr tt most w (by omega)
end Chg
end
section
open Go.RowKit NB
namespace Us
def us0:RuleV:=⟨⟨#[85,83]⟩,2007,32767,3,2,0,8,7200,0,3600,⟨#[68]⟩⟩
def us1:RuleV:=⟨⟨#[85,83]⟩,2007,32767,11,2,0,1,7200,0,0,⟨#[83]⟩⟩
def eu:RuleV:=⟨⟨#[69,85]⟩,1981,32767,3,1,0,0,3600,2,3600,⟨#[83]⟩⟩
theorem Us (w:World):Calls Tryz.prog 88 #[] w fun e w'=>e= .returned (.slice (some ⟨w.heap.size,0,none⟩) 2 2)∧w'=w.alloc (.cells (us0.cells++us1.cells).toArray 57):=by
 unfold us0 us1 RuleV.cells
 go_enter Tryz.func88,Tryz.ntmps88
 go_wp2
 go_ret
 exact ⟨rfl,rfl⟩
def zero:RuleV:=⟨⟨#[]⟩,0,0,0,0,0,0,0,0,0,⟨#[]⟩⟩
def enn:RuleV:=⟨⟨#[69,85]⟩,1981,32767,4,0,0,1,3600,2,3600,⟨#[83]⟩⟩
def emm:RuleV:=⟨⟨#[69,85]⟩,1992,32767,4,0,0,1,3600,2,3600,⟨#[83]⟩⟩
def eoo:RuleV:=⟨⟨#[69,85]⟩,1981,1990,3,1,0,0,3600,2,3600,⟨#[83]⟩⟩
theorem fit_us0:us0.Fit:=⟨by decide,by decide,by unfold I64;decide,by unfold I64;decide,by unfold I64;decide,by unfold I64;decide⟩
theorem fit_us1:us1.Fit:=⟨by decide,by decide,by unfold I64;decide,by unfold I64;decide,by unfold I64;decide,by unfold I64;decide⟩
end Us
end
section
open Go.RowKit
namespace L33
open Frc
def eE:EraV:=⟨-18000,2,0,⟨#[85,83]⟩,⟨#[69,37,115,84]⟩,⟨false,0,0,0,0,0,0,0⟩⟩
theorem fit_eE:eE.Fit:=⟨by decide,by decide,by unfold I64;decide,by unfold I64;decide,by unfold I64;decide,by unfold I64;decide⟩
def eC:EraV:=⟨3600,1,3600,⟨#[]⟩,⟨#[37,122]⟩,⟨false,0,0,0,0,0,0,0⟩⟩
def eZ:EraV:=⟨0,0,0,⟨#[]⟩,⟨#[]⟩,⟨false,0,0,0,0,0,0,0⟩⟩
def eX:EraV:=⟨0,0,0,⟨#[]⟩,⟨#[88]⟩,⟨false,0,0,0,0,0,0,0⟩⟩
theorem lp1:lastP [Us.us0,Us.us1] eE 1719792000=some ⟨0,2024,1710036000⟩:=by
 unfold lastP Chn.lastO
 rw [if_pos (by decide +kernel),show Occ.prevO [Us.us0,Us.us1] eE.rules ⟨-1,0,Chn.clampE 1719792000+64800+1⟩=some ⟨0,2024,1710036000⟩ by decide +kernel]
 exact Occ.pick_here (by decide +kernel)
theorem lp0:lastP [Us.us0,Us.us1] eE 0=none:=by
 unfold lastP Chn.lastO
 rw [if_pos (by decide +kernel),show Occ.prevO [Us.us0,Us.us1] eE.rules ⟨-1,0,Chn.clampE 0+64800+1⟩=none by decide +kernel]
 exact Occ.pick_none
theorem s1:stateV [Us.us0,Us.us1] eE 1719792000=⟨-14400,3600,⟨#[69,68,84]⟩⟩:=by
 unfold stateV
 rw [lp1]
 decide +kernel
theorem s0:stateV [Us.us0,Us.us1] eE 0=⟨-18000,0,⟨#[69,83,84]⟩⟩:=by
 unfold stateV
 rw [lp0]
 decide +kernel
theorem a1:atV [Us.us0,Us.us1] eE 1719792000=(⟨-14400,3600,⟨#[69,68,84]⟩⟩,0):=by
 unfold atV
 rw [if_pos (by decide +kernel),if_pos (by decide +kernel),s1]
theorem a0:atV [Us.us0,Us.us1] eE 0=(⟨-18000,0,⟨#[69,83,84]⟩⟩,0):=by
 unfold atV
 rw [if_pos (by decide +kernel),if_pos (by decide +kernel),s0]
theorem n1:nextV [Us.us0,Us.us1] eE 1719792000=(1730613600,true):=by
 unfold nextV nextF
 rw [if_pos (by decide +kernel),s1,lp1]
 decide +kernel
theorem p1:prevV [Us.us0,Us.us1] eE 1719792000=(1710054000,true):=by
 unfold prevV prevF
 rw [if_pos (by decide +kernel),s1,lp1]
 decide +kernel
theorem n0:nextV [Us.us0,Us.us1] eE 0=(1173596400,true):=by
 unfold nextV nextF
 rw [if_pos (by decide +kernel),s0,lp0]
 decide +kernel
theorem p0:prevV [Us.us0,Us.us1] eE 0=(0,false):=by
 unfold prevV prevF
 rw [if_pos (by decide +kernel),lp0]
 rfl
theorem nx:nextV [Us.us0,Us.us1] eX 0=(0,false):=by
 unfold nextV
 rw [if_neg (by decide +kernel)]
end L33
end
section
open Go.RowKit
namespace L34
open Pt
def eA:EraV:=⟨3600,0,0,⟨#[]⟩,⟨#[88]⟩,⟨true,1950,1,0,0,1,0,0⟩⟩
theorem fit_eA:eA.Fit:=⟨by decide,by decide,by unfold I64;decide,by unfold I64;decide,by unfold I64;decide,by unfold I64;decide⟩
def eB:EraV:=⟨7200,0,0,⟨#[]⟩,⟨#[89]⟩,⟨false,0,0,0,0,0,0,0⟩⟩
theorem fit_eB:eB.Fit:=⟨by decide,by decide,by unfold I64;decide,by unfold I64;decide,by unfold I64;decide,by unfold I64;decide⟩
def zA (v:Value):ZoneV:=⟨⟨#[65]⟩,v,[eA,eB]⟩
def zE (v:Value):ZoneV:=⟨⟨#[69]⟩,v,[L33.eE]⟩
def two (rv zv va ve:Value):TabV:=⟨rv,zv,.slice none 0 0,[Us.us0,Us.us1],[zA va,zE ve],[]⟩
theorem endsA:Zn.endsL [Us.us0,Us.us1] [eA,eB]=[-631155600]:=by decide +kernel
theorem endsE:Zn.endsL [Us.us0,Us.us1] [L33.eE]=[]:=by decide +kernel
theorem goodA:GoodE [Us.us0,Us.us1] [eA,eB]:=⟨by decide +kernel,by rw [endsA];exact List.pairwise_singleton _ _⟩
theorem goodE:GoodE [Us.us0,Us.us1] [L33.eE]:=⟨by decide +kernel,by rw [endsE];exact List.Pairwise.nil⟩
section
variable (rv zv va ve:Value)
theorem good:GoodT (two rv zv va ve):=by
 intro z hz
 rcases List.mem_cons.1 hz with rfl|hz
 ·exact goodA
 ·rcases List.mem_cons.1 hz with rfl|hz
  ·exact goodE
  ·cases hz
theorem v3:valV (two rv zv va ve) 1 1719792000=(⟨-14400,3600,⟨#[69,68,84]⟩⟩,0):=by
 rw [(val_in (t:=two rv zv va ve) (zone:=1) (z:=zE ve) rfl (by decide) (by decide) (e:=L33.eE) (by show [L33.eE][idx (Zn.endsL [Us.us0,Us.us1] [L33.eE]) 1719792000]? =some L33.eE;rw [endsE];rfl)).1]
 exact L33.a1
theorem v4:valV (two rv zv va ve) 2 0=(zeroV,12):=(val_none (t:=two rv zv va ve) (zone:=2) 0 rfl).1
theorem v5:valV (two rv zv va ve) (-1) 971890963200=(zeroV,12):=(val_none (t:=two rv zv va ve) (zone:= -1) 971890963200 rfl).1
theorem v6:valV (two rv zv va ve) 0 971890963200=(zeroV,1):=(val_out (t:=two rv zv va ve) (zone:=0) (z:=zA va) rfl (by decide)).1
theorem v7:valV (two rv zv va ve) 0 (-1096193779201)=(zeroV,1):=(val_out (t:=two rv zv va ve) (zone:=0) (z:=zA va) rfl (by decide)).1
end
end L34
end
section
open Go.RowKit
namespace L35
open Pt Chg L34
theorem chk:(Chk.check [Us.us0,Us.us1]).2=0:=by decide +kernel
theorem lpN:Frc.lastP [Us.us0,Us.us1] L33.eE (-1096193779200)=none:=by
 unfold Frc.lastP Chn.lastO
 rw [if_pos (by decide +kernel),show Occ.prevO [Us.us0,Us.us1] L33.eE.rules ⟨-1,0,Chn.clampE (-1096193779200)+64800+1⟩=none by decide +kernel]
 exact Occ.pick_none
theorem nv0:Frc.nextV [Us.us0,Us.us1] L33.eE (-1096193779200)=(1173596400,true):=by
 have hs:Frc.stateV [Us.us0,Us.us1] L33.eE (-1096193779200)=⟨-18000,0,⟨#[69,83,84]⟩⟩:=by
  unfold Frc.stateV
  rw [lpN]
  decide +kernel
 unfold Frc.nextV Frc.nextF
 rw [if_pos (by decide +kernel),hs,lpN]
 decide +kernel
theorem nv1:Frc.nextV [Us.us0,Us.us1] L33.eE 1173596400=(1194156000,true):=by
 have hl:Frc.lastP [Us.us0,Us.us1] L33.eE 1173596400=some ⟨0,2007,1173578400⟩:=by
  unfold Frc.lastP Chn.lastO
  rw [if_pos (by decide +kernel),show Occ.prevO [Us.us0,Us.us1] L33.eE.rules ⟨-1,0,Chn.clampE 1173596400+64800+1⟩=some ⟨0,2007,1173578400⟩ by decide +kernel]
  exact Occ.pick_here (by decide +kernel)
 have hs:Frc.stateV [Us.us0,Us.us1] L33.eE 1173596400=⟨-14400,3600,⟨#[69,68,84]⟩⟩:=by
  unfold Frc.stateV
  rw [hl]
  decide +kernel
 unfold Frc.nextV Frc.nextF
 rw [if_pos (by decide +kernel),hs,hl]
 decide +kernel
theorem nv2:Frc.nextV [Us.us0,Us.us1] L33.eE 1194156000=(1205046000,true):=by
 have hl:Frc.lastP [Us.us0,Us.us1] L33.eE 1194156000=some ⟨1,2007,1194141600⟩:=by
  unfold Frc.lastP Chn.lastO
  rw [if_pos (by decide +kernel),show Occ.prevO [Us.us0,Us.us1] L33.eE.rules ⟨-1,0,Chn.clampE 1194156000+64800+1⟩=some ⟨1,2007,1194141600⟩ by decide +kernel]
  exact Occ.pick_here (by decide +kernel)
 have hs:Frc.stateV [Us.us0,Us.us1] L33.eE 1194156000=⟨-18000,0,⟨#[69,83,84]⟩⟩:=by
  unfold Frc.stateV
  rw [hl]
  decide +kernel
 unfold Frc.nextV Frc.nextF
 rw [if_pos (by decide +kernel),hs,hl]
 decide +kernel
theorem nv3:Frc.nextV [Us.us0,Us.us1] L33.eE 1205046000=(1225605600,true):=by
 have hl:Frc.lastP [Us.us0,Us.us1] L33.eE 1205046000=some ⟨0,2008,1205028000⟩:=by
  unfold Frc.lastP Chn.lastO
  rw [if_pos (by decide +kernel),show Occ.prevO [Us.us0,Us.us1] L33.eE.rules ⟨-1,0,Chn.clampE 1205046000+64800+1⟩=some ⟨0,2008,1205028000⟩ by decide +kernel]
  exact Occ.pick_here (by decide +kernel)
 have hs:Frc.stateV [Us.us0,Us.us1] L33.eE 1205046000=⟨-14400,3600,⟨#[69,68,84]⟩⟩:=by
  unfold Frc.stateV
  rw [hl]
  decide +kernel
 unfold Frc.nextV Frc.nextF
 rw [if_pos (by decide +kernel),hs,hl]
 decide +kernel
theorem nv4:Frc.nextV [Us.us0,Us.us1] L33.eE 1225605600=(1236495600,true):=by
 have hl:Frc.lastP [Us.us0,Us.us1] L33.eE 1225605600=some ⟨1,2008,1225591200⟩:=by
  unfold Frc.lastP Chn.lastO
  rw [if_pos (by decide +kernel),show Occ.prevO [Us.us0,Us.us1] L33.eE.rules ⟨-1,0,Chn.clampE 1225605600+64800+1⟩=some ⟨1,2008,1225591200⟩ by decide +kernel]
  exact Occ.pick_here (by decide +kernel)
 have hs:Frc.stateV [Us.us0,Us.us1] L33.eE 1225605600=⟨-18000,0,⟨#[69,83,84]⟩⟩:=by
  unfold Frc.stateV
  rw [hl]
  decide +kernel
 unfold Frc.nextV Frc.nextF
 rw [if_pos (by decide +kernel),hs,hl]
 decide +kernel
theorem nv5:Frc.nextV [Us.us0,Us.us1] L33.eE 1236495600=(1257055200,true):=by
 have hl:Frc.lastP [Us.us0,Us.us1] L33.eE 1236495600=some ⟨0,2009,1236477600⟩:=by
  unfold Frc.lastP Chn.lastO
  rw [if_pos (by decide +kernel),show Occ.prevO [Us.us0,Us.us1] L33.eE.rules ⟨-1,0,Chn.clampE 1236495600+64800+1⟩=some ⟨0,2009,1236477600⟩ by decide +kernel]
  exact Occ.pick_here (by decide +kernel)
 have hs:Frc.stateV [Us.us0,Us.us1] L33.eE 1236495600=⟨-14400,3600,⟨#[69,68,84]⟩⟩:=by
  unfold Frc.stateV
  rw [hl]
  decide +kernel
 unfold Frc.nextV Frc.nextF
 rw [if_pos (by decide +kernel),hs,hl]
 decide +kernel
theorem nv6:Frc.nextV [Us.us0,Us.us1] L33.eE 1257055200=(1268550000,true):=by
 have hl:Frc.lastP [Us.us0,Us.us1] L33.eE 1257055200=some ⟨1,2009,1257040800⟩:=by
  unfold Frc.lastP Chn.lastO
  rw [if_pos (by decide +kernel),show Occ.prevO [Us.us0,Us.us1] L33.eE.rules ⟨-1,0,Chn.clampE 1257055200+64800+1⟩=some ⟨1,2009,1257040800⟩ by decide +kernel]
  exact Occ.pick_here (by decide +kernel)
 have hs:Frc.stateV [Us.us0,Us.us1] L33.eE 1257055200=⟨-18000,0,⟨#[69,83,84]⟩⟩:=by
  unfold Frc.stateV
  rw [hl]
  decide +kernel
 unfold Frc.nextV Frc.nextF
 rw [if_pos (by decide +kernel),hs,hl]
 decide +kernel
theorem nv7:Frc.nextV [Us.us0,Us.us1] L33.eE 1710054000=(1730613600,true):=by
 have hl:Frc.lastP [Us.us0,Us.us1] L33.eE 1710054000=some ⟨0,2024,1710036000⟩:=by
  unfold Frc.lastP Chn.lastO
  rw [if_pos (by decide +kernel),show Occ.prevO [Us.us0,Us.us1] L33.eE.rules ⟨-1,0,Chn.clampE 1710054000+64800+1⟩=some ⟨0,2024,1710036000⟩ by decide +kernel]
  exact Occ.pick_here (by decide +kernel)
 have hs:Frc.stateV [Us.us0,Us.us1] L33.eE 1710054000=⟨-14400,3600,⟨#[69,68,84]⟩⟩:=by
  unfold Frc.stateV
  rw [hl]
  decide +kernel
 unfold Frc.nextV Frc.nextF
 rw [if_pos (by decide +kernel),hs,hl]
 decide +kernel
section
variable (rv zv va ve:Value)
theorem zone0:zoneAt (two rv zv va ve) 0=some (zA va):=rfl
theorem zone1:zoneAt (two rv zv va ve) 1=some (zE ve):=rfl
theorem stepE {s c:Int} (h0:lo≤s) (h1:s≤hi) (hc:c≤hi) (h:Frc.nextV [Us.us0,Us.us1] L33.eE s=(c,true)):NextT (two rv zv va ve) 1 s (c,true):=by
 have hR:Er.rightB L33.eE=true:=by decide +kernel
 have hB:=L33.nextB chk hR (t:=s) (by unfold lo at h0;omega) (by unfold hi at h1;omega) h
 have hi0:∀ u,idx (Zn.endsL [Us.us0,Us.us1] [L33.eE]) u=0:=fun u=>by rw [endsE];rfl
 have hV:∀ u,VV [Us.us0,Us.us1] [L33.eE] u=L33.AV [Us.us0,Us.us1] L33.eE u:=fun u=>by unfold VV;rw [hi0];rfl
 refine .inr ⟨zE ve,rfl,⟨h0,h1⟩,?_⟩
 show NextR [Us.us0,Us.us1] [L33.eE] (VV [Us.us0,Us.us1] [L33.eE] s) s (c,true)
 refine .hit ?_ ?_
 ·have hcd:candN [Us.us0,Us.us1] [L33.eE] s=(c,true):=by
   rw [cand_none (e:=L33.eE) (by rw [hi0];rfl) (by rw [endsE];rfl),h]
  unfold stepN
  rw [hcd]
  exact if_neg (by rintro (h|h|h);cases h;exact absurd hc (Int.not_le.2 h);exact absurd hB.2.1 (Int.not_lt.2 h))
 ·rw [hV,hV]
  exact hB.2.2.1
theorem runs7 {ys:List Int} (h:Runs (two rv zv va ve) 1 1268550000 ys):Runs (two rv zv va ve) 1 (-1096193779200) (1173596400 :: 1194156000 :: 1205046000 :: 1225605600 :: 1236495600 :: 1257055200 :: 1268550000 :: ys):= .cons (stepE rv zv va ve (by decide) (by decide) (by decide) nv0) <| .cons (stepE rv zv va ve (by decide) (by decide) (by decide) nv1) <| .cons (stepE rv zv va ve (by decide) (by decide) (by decide) nv2) <| .cons (stepE rv zv va ve (by decide) (by decide) (by decide) nv3) <| .cons (stepE rv zv va ve (by decide) (by decide) (by decide) nv4) <| .cons (stepE rv zv va ve (by decide) (by decide) (by decide) nv5) <| .cons (stepE rv zv va ve (by decide) (by decide) (by decide) nv6) <| h
theorem cnt7 (ys:List Int):cnt 9223372036854775807 7 (1173596400 :: 1194156000 :: 1205046000 :: 1225605600 :: 1236495600 :: 1257055200 :: 1268550000 :: ys)=7:=rfl
theorem nvP:Frc.nextV [Us.us0,Us.us1] L33.eE 1710053999=(1710054000,true):=by
 have hR:Er.rightB L33.eE=true:=by decide +kernel
 have:=(L33.prevB chk hR (t:=1719792000) (by decide) (by decide) L33.p1).2.2.2.2
 exact this
theorem runs2 {ys:List Int} (h:Runs (two rv zv va ve) 1 1730613600 ys):Runs (two rv zv va ve) 1 1710053999 (1710054000 :: 1730613600 :: ys):= .cons (stepE rv zv va ve (by decide) (by decide) (by decide) nvP) (.cons (stepE rv zv va ve (by decide) (by decide) (by decide) nv7) h)
theorem cnt2 {t:TabV} (ok:Ok t) (hc:(Chk.check t.rs).2=0) {zone:Int} {ys:List Int} (h:Runs t zone 1730613600 ys):cnt 1730613601 9 (1710054000 :: 1730613600 :: ys)=2:=by
 cases h with
 |nil _=>rfl
 | @cons _ y zs hn _=>
   have:=(nextT_up ok hc hn).1
   show (if y<1730613601 then _ else 0)+1+1=2
   rw [if_neg (by omega)]
theorem runs1 {ys:List Int} (h:Runs (two rv zv va ve) 1 1730613600 ys):Runs (two rv zv va ve) 1 1710054000 (1730613600 :: ys):= .cons (stepE rv zv va ve (by decide) (by decide) (by decide) nv7) h
theorem cnt0 (ys:List Int):cnt 1730613600 9 (1730613600 :: ys)=0:=rfl
theorem nE:NextT (two rv zv va ve) 1 1719792000 (1730613600,true):=stepE rv zv va ve (by decide) (by decide) (by decide) L33.n1
end
end L35
end
end Go.Proofs.YtgmfojgnjdpofaaGreatDoor
