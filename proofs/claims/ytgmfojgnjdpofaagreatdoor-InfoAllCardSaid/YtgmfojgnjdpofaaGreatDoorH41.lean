import Derived.Test.YtgmfojgnjdpofaaGreatDoorH38
import Derived.Test.YtgmfojgnjdpofaaGreatDoorH40
import Derived.Test.YtgmfojgnjdpofaaGreatDoorH18
import Derived.Test.YtgmfojgnjdpofaaGreatDoorH25
import Derived.Test.YtgmfojgnjdpofaaGreatDoorH19
import Derived.OrdersHeld
namespace Go.Proofs.YtgmfojgnjdpofaaGreatDoor
open Go.Proofs.Tryz
section
open Go.RowKit NB
namespace RCk
open Ck
set_option maxRecDepth 100000 in
set_option maxHeartbeats 3200000 in
theorem rule {w:World} {t:TabV} (h:HoldsT w t) (hc:Capd t.rv) {i:Nat} (hi:i<t.rs.length) (hr:t.rs.length≤12):
 Calls prog 210 #[.agg #[t.rv,t.zv,t.lv],.int .i64 i] w fun x w'=>x=.returned (.int .i64 (Ck.ruleF t.rs i))∧Below w.heap.size w w':=by
 unfold ruleF;obtain ⟨U,hU⟩:∃ u,u=Chk.check (t.rs.take (i+1)):=⟨_,rfl⟩;obtain ⟨rv,zv,lv,rs,zs,ls⟩:=t;obtain ⟨pr,cr,e1⟩:=h.r.form;obtain ⟨pl,cl,e3⟩:=h.l.form;obtain ⟨pz,cz,e2⟩:=h.z.form;dsimp only at e1 e2 e3 hi hr hc hU ⊢;subst e1 e2 e3;obtain ⟨hc1,hc2⟩:=hc _ _ _ rfl;have cu:=fun (X:World) (hX:Below w.heap.size w X)=>R27.CheckH ((h.r.later hX).take (m:=i+1) (show i+1≤rs.length by omega));dsimp only at cu;rw [← hU] at cu ⊢;obtain ⟨U1,U2⟩:=U;dsimp only at cu ⊢;have CU:=kj cu;clear cu h hU;generalize rs.length=nr at *;generalize ls.length=nl at *;generalize zs.length=nz at *;have hc3:cr≤9223372036854775807:=hc2;clear hc2;have q1:(i:Int)+1≤(cr:Int):=by omega
 by_cases h3:U1=i
 ·rw [if_pos h3];subst h3;go_enter func210,ntmps210
  go_wp2_with (go_at_call 264;(with_reducible refine (CU.out _ ?_).mono ?_);(· exact bcq);rintro e w8 ⟨rfl,hb8⟩;obtain ⟨hc8,hf8⟩:=bcell hb8)
  go_ret;exact ⟨rfl,bcq⟩
 ·rw [if_neg h3];have e3:(U1==(i:Int))=false:=by simp [h3]
  go_enter func210,ntmps210
  go_wp2_with (go_at_call 264;(with_reducible refine (CU.out _ ?_).mono ?_);(· exact bcq);rintro e w8 ⟨rfl,hb8⟩;obtain ⟨hc8,hf8⟩:=bcell hb8)
  go_ret;exact ⟨rfl,bcq⟩
set_option maxRecDepth 100000 in
set_option maxHeartbeats 6400000 in
theorem link {w:World} {t:TabV} (h:HoldsT w t) (hc:Capd t.lv) {i:Nat} {x:LinkV} (hx:t.ls[i]? =some x) (hz:t.zs.length≤1000) (hl:t.ls.length≤1000):
 Calls prog 211 #[.agg #[t.rv,t.zv,t.lv],.int .i64 i] w fun y w'=>y=.returned (.int .i64 (Ck.linkF (t.zs.map ZoneV.name) t.ls i x))∧Below w.heap.size w w':=by
 obtain ⟨U,hU⟩:∃ u,u=RBk.findR t x.name:=⟨_,rfl⟩;have cf:=fun (X:World) (hX:Below w.heap.size w X)=>RBk.Find (h.later hX) (by omega) x.name;rw [← hU] at cf;unfold RBk.findR RBk.zn at hU;unfold linkF;rw [← hU];clear hU;have hzf:=h.zf;obtain ⟨rv,zv,lv,rs,zs,ls⟩:=t;obtain ⟨U1,U2⟩:=U;unfold RBk.pairV at cf;obtain ⟨pr,cr,e1⟩:=h.r.form;obtain ⟨pz,cz,e2,hpz⟩:=h.z.pk;obtain ⟨pl,cl,e3,hpl⟩:=h.l.pk;dsimp only at e1 e2 e3 hpz hpl hx hz hl hc cf hzf ⊢;subst e1 e2 e3;obtain ⟨hc1,hc2⟩:=hc _ _ _ rfl;obtain ⟨g1,o1,rfl,hg1,d1⟩:=hpl i x hx;have x0:=d1 0 _ rfl;have x1:=d1 1 _ rfl;rw [Nat.add_zero] at x0;obtain ⟨nl,hnl⟩:∃ n,n=ls.length:=⟨_,rfl⟩;obtain ⟨nz,hnz⟩:∃ n,n=zs.length:=⟨_,rfl⟩;have hil:i<nl:=by rw [hnl];exact (List.getElem?_eq_some_iff.1 hx).1
 rw [← hnl] at hl hc1 cf ⊢;rw [← hnz] at hz cf ⊢;have HPZ:=kj hpz;have HPL:=kj hpl;have HNL:=kj hnl;have HNZ:=kj hnz;have CF:=kj cf;have HX:=kj hx;have HZF:=kj hzf;clear hpz hpl hnl hnz cf hx h d1 hc hzf;generalize rs.length=nr at *;have hc3:cl≤9223372036854775807:=hc2;clear hc2;have q1:(i:Int)<(nl:Int):=by omega
 obtain ⟨R,hR⟩:∃ r,r=(if ((zs.map ZoneV.name++(ls.take i).map LinkV.name).any fun a=>decide (a=x.name))=true then (11:Int) else U2):=⟨_,rfl⟩;rw [← hR];have HR:=kj hR;clear hR;have hb0:=Box.new w #[.slice pr nr cr,.slice pz nz cz,.slice (some ⟨g1,o1,none⟩) nl cl] 26;obtain ⟨V,hV⟩:∃ V,V=w.alloc (.cells #[.slice pr nr cr,.slice pz nz cz,.slice (some ⟨g1,o1,none⟩) nl cl] 26):=⟨_,rfl⟩;have hbV:Below w.heap.size w V:=by rw [hV];exact bcq
 have hsV:w.heap.size<V.heap.size:=by rw [hV];simp
 rw [← hV] at hb0;have HV:=kj hV;clear hV;go_enter func211,ntmps211
 go_wp2_with (first|fail)
 rw [← HV.out]
 go_loopw [21] (fun j wr=>∃ k:Nat,j=.int .i64 k∧k≤nz∧Below V.heap.size V wr∧Hid (∀ j z,j<k→zs[j]? =some z→z.name≠x.name)) (fun j _=>nz-(intOf j).toNat)
 case atStart=>exact ⟨0,rfl,Nat.zero_le _,Below.refl _ _,fun j _ hj=>absurd hj (Nat.not_lt_zero _)⟩
 case round=>
  obtain ⟨k,rfl,hk,hbr,HS⟩:=hrel;have hbw:Below w.heap.size w wr:=hbV.trans (hbr.mono hbV.size)
  by_cases hlt:k<nz
  ·obtain ⟨z,hz2⟩:∃ z,zs[k]? =some z:=⟨_,List.getElem?_eq_getElem (by rw [← HNZ.out];exact hlt)⟩;obtain ⟨g2,o2,rfl,hg2,d2⟩:=HPZ.out k z hz2;have z0:=(hbw.cell (p:=⟨g2,o2+k*2+0,none⟩) hg2).trans (d2 0 _ rfl);have z1:=(hbw.cell (p:=⟨g2,o2+k*2+1,none⟩) hg2).trans (d2 1 _ rfl);rw [Nat.add_zero] at z0;obtain ⟨q2,c2,hv2⟩:=(HZF.out z (List.mem_of_getElem? hz2)).e.form;rw [hv2] at z1;clear hv2;generalize z.es.length=m2 at z1;clear d2;have q1:(k:Int)<(nz:Int):=by omega
   have HZ2:=kj hz2;clear hz2
   by_cases he:z.name=x.name
   ·have e0:=str_eq he;have HE:Hid (((zs.map ZoneV.name++(ls.take i).map LinkV.name).any fun a=>decide (a=x.name))=true):=Ck.any_name.2 (List.mem_append.2 (.inl (by rw [← he];exact List.mem_map.2 ⟨z,List.mem_of_getElem? HZ2.out,rfl⟩)));clear he;go_wp2;go_ret;exact ⟨by rw [HR.out,if_pos HE.out];rfl,bcq⟩
   ·have e0:=str_ne he;have HE:=kj he;clear he;go_wp2;go_roundw
    case rel=>
     refine ⟨k+1,by go_num,by omega,bcq,fun j u hj hy=> ?_⟩
     by_cases hjk:j=k
     ·subst hjk;rw [HZ2.out] at hy;cases hy;exact HE.out
     ·exact HS.out j u (by omega) hy
    case measure=>simp [intOf];omega
  ·obtain rfl:k=nz:=by omega
   have HZ:Hid (x.name∉zs.map ZoneV.name):=fun hm=>by
    obtain ⟨z,hz2,e⟩:=List.mem_map.1 hm;obtain ⟨j,hj⟩:=List.mem_iff_getElem?.1 hz2;exact HS.out j z (by rw [HNZ.out];exact (List.getElem?_eq_some_iff.1 hj).1) hj e
   obtain ⟨w2,hw2⟩:∃ w2:World,w2=wr:=⟨_,rfl⟩;rw [← hw2] at hbr hbw ⊢;clear hw2 HS;have hb2:=hb0.later hbr;have c2:=hb2.cell;have hs2:=hbr.size
   go_wp2_with (first|fail)
   go_loopw [35] (fun j wr=>∃ k:Nat,j=.int .i64 k∧k≤i∧Below w2.heap.size w2 wr∧Hid (∀ j z,j<k→ls[j]? =some z→z.name≠x.name)) (fun j _=>i-(intOf j).toNat)
   case atStart=>exact ⟨0,rfl,Nat.zero_le _,Below.refl _ _,fun j _ hj=>absurd hj (Nat.not_lt_zero _)⟩
   case round=>
    obtain ⟨k,rfl,hk,hbr3,HS⟩:=hrel;have hbw3:Below w.heap.size w wr:=hbw.trans (hbr3.mono hbw.size)
    by_cases hlt3:k<i
    ·obtain ⟨z,hz2⟩:∃ z,ls[k]? =some z:=⟨_,List.getElem?_eq_getElem (by rw [← HNL.out];omega)⟩;obtain ⟨g2,o2,hge,hg2,d2⟩:=HPL.out k z hz2;obtain ⟨rfl,rfl,_⟩:g1=g2∧o1=o2∧True:=by simpa using hge
     have z0:=(hbw3.cell (p:=⟨g1,o1+k*2+0,none⟩) hg1).trans (d2 0 _ rfl);have z1:=(hbw3.cell (p:=⟨g1,o1+k*2+1,none⟩) hg1).trans (d2 1 _ rfl);rw [Nat.add_zero] at z0;clear d2 hge;have q3:(k:Int)<(i:Int):=by omega
     have HZ2:=kj hz2;clear hz2
     by_cases he:z.name=x.name
     ·have e0:=str_eq he;have HE:Hid (((zs.map ZoneV.name++(ls.take i).map LinkV.name).any fun a=>decide (a=x.name))=true):=by
       refine Ck.any_name.2 (List.mem_append.2 (.inr ?_));rw [← he];refine List.mem_map.2 ⟨z,List.mem_of_getElem? (i:=k) ?_,rfl⟩;rw [List.getElem?_take,if_pos hlt3];exact HZ2.out
      clear he;go_wp2;go_ret;exact ⟨by rw [HR.out,if_pos HE.out];rfl,bcq⟩
     ·have e0:=str_ne he;have HE:=kj he;clear he;go_wp2;go_roundw
      case rel=>
       refine ⟨k+1,by go_num,by omega,bcq,fun j u hj hy=> ?_⟩
       by_cases hjk:j=k
       ·subst hjk;rw [HZ2.out] at hy;cases hy;exact HE.out
       ·exact HS.out j u (by omega) hy
      case measure=>simp [intOf];omega
    ·obtain rfl:k=i:=by omega
     have HE:Hid (¬ ((zs.map ZoneV.name++(ls.take k).map LinkV.name).any fun a=>decide (a=x.name))=true):=fun hm=>by
      rcases List.mem_append.1 (Ck.any_name.1 hm) with h1|h1
      ·exact HZ.out h1
      ·obtain ⟨z,hz2,e⟩:=List.mem_map.1 h1;obtain ⟨j,hj⟩:=List.mem_iff_getElem?.1 hz2;rw [List.getElem?_take] at hj
       split at hj
       ·exact HS.out j z (by omega) hj e
       ·cases hj
     clear HS;have c3:=(hb2.later hbr3).cell
     go_wp2_with (go_at_call 265;(with_reducible refine (CF.out _ ?_).mono ?_);(· exact bcq);rintro e w8 ⟨rfl,hb8⟩;obtain ⟨hc8,hf8⟩:=bcell hb8)
     go_ret;exact ⟨by rw [HR.out,if_neg HE.out];rfl,bcq⟩
end RCk
end
section
open Go.RowKit NB
namespace RCk
open Ck
theorem zip_at {zs:List ZoneV} {es:List (List Int)} {k:Nat} {z:ZoneV} {y:List Int} (hz:zs[k]? =some z) (hy:es[k]? =some y):(zs.zip es)[k]? =some (z,y):=List.getElem?_zip_eq_some.2 ⟨hz,hy⟩
theorem own0 {w:World} {base g:Nat} (h:w.heap[g]? =some (.cells #[] 3)) (hb:base≤g):OwnI w base (.slice (some ⟨g,0,none⟩) 0 0) []:=⟨by simp,.inr ⟨g,0,#[],rfl,hb,h,Nat.le_refl _,Nat.zero_le _,by simp,by simp⟩⟩
theorem app_below {B:Nat} {V w w':World} {v:Value} {L:List Int} (hV:Below B V w) (hB:B≤w.heap.size) (ho:OwnI w B v L) (hg:w.grownBy w' v.ownBlock):Below B V w':=hV.grown hg hB (fun j hj=>(ho.lt j hj).1)
theorem flat_len:∀ (l:List (List Int)),(∀ y∈l,y.length≤100)→l.flatten.length≤100*l.length
 | [],_=>by simp
 |y :: l,h=>by
  have h1:=h y (by simp);have h2:=flat_len l (fun z hz=>h z (by simp [hz]));rw [List.flatten_cons,List.length_append,List.length_cons];omega
theorem where_bad {nr:Nat} {zs:List ZoneV} {nl:Nat} {rs:List Int} {es:List (List Int)} {ls:List Int} {k:Nat} {p:ZoneV×List Int} (hp:(zs.zip es)[k]? =some p) (h:zoneOk p=false):whereB nr zs nl rs es ls=false:=by
 unfold whereB;rw [Eqs.not_all hp h,Bool.false_and,Bool.and_false,Bool.and_false,Bool.and_false]
theorem where_low {nr:Nat} {zs:List ZoneV} {nl:Nat} {rs:List Int} {es:List (List Int)} {ls:List Int} {k:Nat} {n:Int} (hp:(lines rs es ls)[k]? =some n) (h:n<1):whereB nr zs nl rs es ls=false:=by
 unfold whereB;rw [Eqs.not_all (p:=fun n=>decide ((1:Int)≤n)) hp (decide_eq_false (by omega)),Bool.and_false,Bool.and_false,Bool.and_false,Bool.and_false]
theorem lens_ok {l r:Nat}:(((l:Int) != (r:Int))=true↔l≠r):=by simp;omega
set_option maxRecDepth 100000 in
set_option maxHeartbeats 6400000 in
theorem Where {w:World} {t:TabV} {x:WhV} (h:HoldsT w t) (hx:HoldsW w x) (hzl:t.zs.length≤100) (hel:∀ z∈t.zs,z.es.length≤1000) (hrl:x.rs.length≤100) (hll:x.ls.length≤100) (hyl:∀ y∈x.es,y.ns.length≤100):
 Calls prog 207 #[.agg #[t.rv,t.zv,t.lv],.agg #[x.rv,x.ev,x.lv]] w fun e w'=>e=.returned (.bool (Ck.whereB t.rs.length t.zs t.ls.length x.rs (x.es.map RowN.ns) x.ls))∧Below w.heap.size w w':=by
 obtain ⟨rv,zv,lv,rs,zs,ls⟩:=t;obtain ⟨xrv,xev,xlv,xr,xe,xl⟩:=x;have hzf:=h.zf;have hef:=hx.ef;have hxr:=hx.r;have hxl:=hx.l;have hr:=h.r;obtain ⟨pr,cr,e1⟩:=h.r.form;obtain ⟨pz,cz,e2,hpz⟩:=h.z.pk;obtain ⟨pl,cl,e3⟩:=h.l.form;obtain ⟨px,cx,e4⟩:=hx.r.form;obtain ⟨pe,ce,e5,hpe⟩:=hx.e.pk;obtain ⟨py,cy,e6⟩:=hx.l.form;dsimp only at e1 e2 e3 e4 e5 e6 hpz hpe hzf hef hzl hel hrl hll hyl hxr hxl hr ⊢;subst e1 e2 e3 e4 e5 e6;clear h hx;obtain ⟨R,hR⟩:∃ r,r=Ck.whereB rs.length zs ls.length xr (xe.map RowN.ns) xl:=⟨_,rfl⟩;rw [← hR];obtain ⟨nr,hnr⟩:∃ n,n=rs.length:=⟨_,rfl⟩;obtain ⟨nz,hnz⟩:∃ n,n=zs.length:=⟨_,rfl⟩;obtain ⟨nl,hnl⟩:∃ n,n=ls.length:=⟨_,rfl⟩;obtain ⟨mr,hmr⟩:∃ n,n=xr.length:=⟨_,rfl⟩;obtain ⟨mz,hmz⟩:∃ n,n=xe.length:=⟨_,rfl⟩;obtain ⟨ml,hml⟩:∃ n,n=xl.length:=⟨_,rfl⟩;rw [← hmr, ←hmz, ←hml, ←hnr, ←hnz, ←hnl];rw [← hnz] at hzl;rw [← hmr] at hrl;rw [← hml] at hll;rw [← hmr] at hxr;rw [← hml] at hxl;rw [← hnr] at hr;have cends:=fun (X:World) (hX:Below w.heap.size w X) (k:Nat) (z:ZoneV) (hz:zs[k]? =some z)=>Zn.REnds (hr.later hX) ((hzf z (List.mem_of_getElem? hz)).later hX).e z.name (by have:=hel z (List.mem_of_getElem? hz);omega);have CE:=kj cends;have HPZ:=kj hpz;have HPE:=kj hpe;have HZF:=kj hzf;have HEF:=kj hef;have HXR:=kj hxr;have HXL:=kj hxl;have HEL:=kj hel;have HYL:=kj hyl;have HNR:=kj hnr;have HNZ:=kj hnz;have HNL:=kj hnl;have HMR:=kj hmr;have HMZ:=kj hmz;have HML:=kj hml;have HR:=kj hR;clear cends hpz hpe hzf hef hxr hxl hr hel hyl hnr hnz hnl hmr hmz hml hR
 by_cases h1:mr=nr
 case neg=>
  have e1:((mr:Int) != (nr:Int))=true:=lens_ok.2 h1;have HE:Hid (R=false):=by rw [HR.out];unfold whereB;rw [← HMR.out, ←HNR.out,decide_eq_false h1];exact rfl
  clear h1;go_enter func207,ntmps207;go_wp2;go_ret;exact ⟨by rw [HE.out];rfl,bcq⟩
 by_cases h2:mz=nz
 case neg=>
  have e1:((mr:Int) != (nr:Int))=false:=by simp [h1]
  have e2:((mz:Int) != (nz:Int))=true:=lens_ok.2 h2;have HE:Hid (R=false):=by rw [HR.out];unfold whereB;rw [List.length_map, ←HMZ.out, ←HNZ.out,decide_eq_false h2,Bool.false_and,Bool.and_false];exact rfl
  clear h1 h2;go_enter func207,ntmps207;go_wp2;go_ret;exact ⟨by rw [HE.out];rfl,bcq⟩
 by_cases h3:ml=nl
 case neg=>
  have e1:((mr:Int) != (nr:Int))=false:=by simp [h1]
  have e2:((mz:Int) != (nz:Int))=false:=by simp [h2]
  have e3:((ml:Int) != (nl:Int))=true:=lens_ok.2 h3;have HE:Hid (R=false):=by rw [HR.out];unfold whereB;rw [← HML.out, ←HNL.out,decide_eq_false h3,Bool.false_and,Bool.and_false,Bool.and_false];exact rfl
  clear h1 h2 h3;go_enter func207,ntmps207;go_wp2;go_ret;exact ⟨by rw [HE.out];rfl,bcq⟩
 subst h1 h2 h3;obtain ⟨V,hV⟩:∃ V,V=((w.alloc (.cells #[.slice pr mr cr,.slice pz mz cz,.slice pl ml cl] 26)).alloc (.cells #[.slice px mr cx,.slice pe mz ce,.slice py ml cy] 202)):=⟨_,rfl⟩;have hbV:Below w.heap.size w V:=by rw [hV];exact bcq
 have hbT:Box V w.heap.size #[.slice pr mr cr,.slice pz mz cz,.slice pl ml cl] 26:=by rw [hV];exact (Box.new w _ _).old
 have hbW:Box V (w.heap.size+1) #[.slice px mr cx,.slice pe mz ce,.slice py ml cy] 202:=by
  rw [hV];have:=Box.new (w.alloc (.cells #[.slice pr mr cr,.slice pz mz cz,.slice pl ml cl] 26)) #[.slice px mr cx,.slice pe mz ce,.slice py ml cy] 202
  simpa using this
 have hsV:w.heap.size+1<V.heap.size:=hbW.lt;have HV:=kj hV;have HBT:=kj hbT;have HBW:=kj hbW;clear hV;go_enter func207,ntmps207
 go_wp2_with (first|fail)
 rw [← HV.out];refine wp_region_noPanic ?_;refine wp_region_heldM (fun U=>U.cell? ⟨w.heap.size+1,0,none⟩=some (.slice px mr cx)∧U.cell? ⟨w.heap.size+1,2,none⟩=some (.slice py ml cy)) 7 (by kernel_rfl) ⟨hbW.cell 0,hbW.cell 2⟩ ?_;intro U hU hSU;have hUb:Below V.heap.size V U:=by rw [hU];exact (Below.refl _ _).drew
 have hUw:Below w.heap.size w U:=hbV.trans (hUb.mono hbV.size);have hUs:=hUb.size;clear hU
 (refine wpAnyM_take (i:=1) (v:= ?v1) rfl (by kernel_rfl) (by kernel_rfl) (by kernel_rfl) [6,3,2] (by kernel_rfl) (by kernel_rfl) (fun _ _ _ h=>h) (Or.inl ⟨by rfl,?y1⟩) hSU ?r1;(case y1=>(intro w hSw;(try dsimp only at hSw);go_simp;(try with_reducible rfl)));(try simp only [Act.put,List.setIfInBounds_toArray]))
 (refine wpAnyM_take (i:=2) (v:= ?v2) rfl (by kernel_rfl) (by kernel_rfl) (by kernel_rfl) [6,3] (by kernel_rfl) (by kernel_rfl) (fun _ _ _ h=>h) (Or.inl ⟨by rfl,?y2⟩) hSU ?r2;(case y2=>(intro w hSw;(try dsimp only at hSw);go_simp;(try with_reducible rfl)));(try simp only [Act.put]))
 (refine wpAnyM_take (i:=4) (v:= ?v4) rfl (by kernel_rfl) (by kernel_rfl) (by kernel_rfl) [6,5] (by kernel_rfl) (by kernel_rfl) (fun _ _ _ h=>h) (Or.inl ⟨by rfl,?y4⟩) hSU ?r4;(case y4=>(intro w hSw;(try dsimp only at hSw);go_simp;(try with_reducible rfl)));(try simp only [Act.put]))
 (refine wpAnyM_take (i:=5) (v:= ?v5) rfl (by kernel_rfl) (by kernel_rfl) (by kernel_rfl) [6] (by kernel_rfl) (by kernel_rfl) (fun _ _ _ h=>h) (Or.inl ⟨by rfl,?y5⟩) hSU ?r5;(case y5=>(intro w hSw;(try dsimp only at hSw);go_simp;(try with_reducible rfl)));(try simp only [Act.put]))
 obtain ⟨U1,hU1⟩:∃ U1,U1=U.alloc (.cells #[] 3):=⟨_,rfl⟩;have hb1:Below U.heap.size U U1:=by rw [hU1];exact bcq
 have hw1:Below w.heap.size w U1:=hUw.trans (hb1.mono hUw.size);have hV1:Below V.heap.size V U1:=hUb.trans (hb1.mono hUs);have ho1:OwnI U1 V.heap.size (.slice (some ⟨U.heap.size,0,none⟩) 0 0) []:=by rw [hU1];exact own0 (heap_alloc_new U _) hUs
 have hS:∀ X,Below V.heap.size V X→X.cell? ⟨w.heap.size+1,0,none⟩=some (.slice px mr cx)∧X.cell? ⟨w.heap.size+1,2,none⟩=some (.slice py ml cy):=fun X hX=>⟨(hX.cell (p:=⟨w.heap.size+1,0,none⟩) hsV).trans (hbW.cell 0),(hX.cell (p:=⟨w.heap.size+1,2,none⟩) hsV).trans (hbW.cell 2)⟩
 (refine wpAnyM_all (rs:=[0]) (by kernel_rfl) (by simp) (List.forall_mem_cons.2 ⟨?_,(fun _ h=>by cases h)⟩);refine wpOp_step rfl (fun K hK=> ?_))
 go_simp;rw [← hU1];refine hK _ _ ⟨.inr (hS _ hV1),?_⟩;clear hK K
 (try simp only [Act.put,List.setIfInBounds_toArray,List.set_cons_zero,List.set_cons_succ])
 (refine wpAnyM_all (rs:=[3]) (by kernel_rfl) (by simp) (List.forall_mem_cons.2 ⟨?_,(fun _ h=>by cases h)⟩);refine wpOp_step rfl (fun K hK=> ?_))
 refine IntS.step_app rfl (.tmp 37) (.tmp 39) (by rfl) (by rfl) ho1 (by rfl) (HXR.out.later hw1) (by rw [← HMR.out];simp;omega) hV1.size ?_;intro v2 U2 ho2 hg2 hx2;have hV2:=app_below hV1 hV1.size ho1 hg2;have hw2:Below w.heap.size w U2:=hbV.trans (hV2.mono hbV.size);refine hK _ _ ⟨.inr (hS _ hV2),?_⟩;clear hK K
 (try simp only [Act.put,List.setIfInBounds_toArray])
 (refine wpAnyM_all (rs:=[6]) (by kernel_rfl) (by simp) (List.forall_mem_cons.2 ⟨?_,(fun _ h=>by cases h)⟩);refine wpOp_step rfl (fun K hK=> ?_))
 refine IntS.step_app rfl (.tmp 40) (.tmp 42) (by rfl) (by rfl) ho2 (by rfl) (HXL.out.later hw2) (by rw [List.length_append, ←HMR.out, ←HML.out];simp;omega) hV2.size ?_;intro v3 U3 ho3 hg3 hx3;have hV3:=app_below hV2 hV2.size ho2 hg3;have hw3:Below w.heap.size w U3:=hbV.trans (hV3.mono hbV.size);refine hK _ _ ⟨.inr (hS _ hV3),?_⟩;clear hK K
 (try simp only [Act.put])
 (refine wpAnyM_all (rs:=[7]) (by kernel_rfl) (by simp) (List.forall_mem_cons.2 ⟨?_,(fun _ h=>by cases h)⟩);refine wpOp_step rfl (fun K hK=> ?_))
 go_simp;refine hK _ _ ⟨.inl rfl,?_⟩;clear hK K;refine wpAnyM_done (by kernel_rfl) (NoPanic.normal ?_) _;rw [List.nil_append] at ho3;have HO3:=kj ho3;clear ho3 ho2 ho1 hg2 hg3 hx2 hx3 hw1 hw2 hV1 hV2 hU1 hb1 hUb hUw hUs hSU hS;have cT:=(hbT.later hV3).cell
 go_wp2_with (first|fail)
 clear cT
 go_loopw [47,5] (fun i s wr=>∃ (k:Nat) (v:Value),i=.int .i64 k∧s=v∧k≤mz∧Below V.heap.size V wr∧Hid (OwnI wr V.heap.size v (xr++xl++((xe.map RowN.ns).take k).flatten))∧Hid (((zs.zip (xe.map RowN.ns)).take k).all zoneOk=true)) (fun i _ _=>mz-(intOf i).toNat)
 case atStart=>exact ⟨0,_,rfl,rfl,Nat.zero_le _,hV3,kj (by simpa using HO3.out),rfl⟩
 case round=>
  clear HO3 hV3 hw3;obtain ⟨k,v,rfl,rfl,hk,hbr,HO,HZ⟩:=hrel;have hbw:Below w.heap.size w wr:=hbV.trans (hbr.mono hbV.size);have hsz:=hbr.size;have hs8:w.heap.size<wr.heap.size:=by omega
  have hs9:w.heap.size+1<wr.heap.size:=by omega
  have hT:=hbT.later hbr;have hW:=hbW.later hbr;have cT:=hT.cell;have cW:=hW.cell
  by_cases hlt:k<mz
  ·obtain ⟨z,hz⟩:∃ z,zs[k]? =some z:=⟨_,List.getElem?_eq_getElem (by rw [← HNZ.out];exact hlt)⟩;obtain ⟨y,hy⟩:∃ y,xe[k]? =some y:=⟨_,List.getElem?_eq_getElem (by rw [← HMZ.out];exact hlt)⟩;obtain ⟨g1,o1,rfl,hg1,d1⟩:=HPZ.out k z hz;have z0:=(hbw.cell (p:=⟨g1,o1+k*2+0,none⟩) hg1).trans (d1 0 _ rfl);have z1:=(hbw.cell (p:=⟨g1,o1+k*2+1,none⟩) hg1).trans (d1 1 _ rfl);rw [Nat.add_zero] at z0;obtain ⟨g2,o2,rfl,hg2,d2⟩:=HPE.out k y hy;have y0:=(hbw.cell (p:=⟨g2,o2+k*1+0,none⟩) hg2).trans (d2 0 _ rfl);rw [Nat.mul_one,Nat.add_zero] at y0;have cz:=CE.out wr hbw k z hz;have hyf:=HEF.out y (List.mem_of_getElem? hy);have hzf:=HZF.out z (List.mem_of_getElem? hz);obtain ⟨pp,cc,hv⟩:=hzf.e.form;obtain ⟨pq,cq,hv2⟩:=hyf.h.form;have hyr:=hyf.h;rw [hv2] at y0 hyr;rw [hv] at z1;have hyl:=HYL.out y (List.mem_of_getElem? hy);have hyz:(xe.map RowN.ns)[k]? =some y.ns:=by rw [List.getElem?_map,hy];rfl
   have hzip:=zip_at hz hyz;obtain ⟨L,hL⟩:∃ L,L=xr++xl++((xe.map RowN.ns).take k).flatten:=⟨_,rfl⟩;have hLl:L.length≤10200:=by
    rw [hL,List.length_append,List.length_append, ←HMR.out, ←HML.out];have:=flat_len ((xe.map RowN.ns).take k) (fun y hy=>by
     obtain ⟨u,hu,rfl⟩:=List.mem_map.1 (List.mem_of_mem_take hy);exact HYL.out u hu)
    rw [List.length_take,List.length_map, ←HMZ.out] at this;have:min k mz≤100:=by omega
    omega
   rw [← hL] at HO;have hLn:L++y.ns=xr++xl++((xe.map RowN.ns).take (k+1)).flatten:=by rw [hL,List.take_add_one,hyz,List.flatten_append];simp
   have HYR:=kj hyr;have HZIP:=kj hzip;have HLN:=kj hLn;have cz2:=fun (X:World) (hX:Below w.heap.size w X)=>CE.out X hX k z hz;rw [hv] at cz2;have CZ:=kj cz2;obtain ⟨zl,hzl2⟩:∃ n,n=z.es.length:=⟨_,rfl⟩;obtain ⟨yl,hyl2⟩:∃ n,n=y.ns.length:=⟨_,rfl⟩;rw [← hzl2] at z1 CZ;rw [← hyl2] at y0 hyl HYR;have HZL:=kj hzl2;have HYL2:=kj hyl2;obtain ⟨E,hE⟩:∃ E,E=Zn.endsE z.es:=⟨_,rfl⟩;unfold Zn.EndsPost at CZ;rw [← hE] at CZ;unfold Zn.endsE at hE;have q1:(k:Int)<(mz:Int):=by omega
   clear d1 d2 cz cz2 hyf hzf hv hv2 hyr hzip hL hLn hz hy hyz hzl2 hyl2;have b7:∀ X,Below wr.heap.size wr X→Below V.heap.size V X:=fun X hX=>hbr.trans (hX.mono hsz);have B7:=kj b7;clear b7;have hZ7:Box (wr.alloc (.cells #[.string z.name,.slice pp zl cc] 66)) wr.heap.size #[.string z.name,.slice pp zl cc] 66:=Box.new _ _ _;have hg3:g2<(wr.alloc (.cells #[.string z.name,.slice pp zl cc] 66)).heap.size:=by rw [World.size_alloc];omega
   have y8:=(World.cell?_alloc_lt wr (.cells #[.string z.name,.slice pp zl cc] 66) ⟨g2,o2+k,none⟩ (show g2<wr.heap.size by omega)).trans y0;cases hzb:Zn.zoneB z.es with
   |false=>
    have HE:Hid (R=false):=by rw [HR.out];exact where_bad HZIP.out (by unfold zoneOk;dsimp only;rw [hzb];rfl)
    rw [hzb] at hE;simp only [Bool.false_eq_true,if_false] at hE;subst hE;clear hzb
    go_wp2_with (go_at_call 72;refine (CZ.out _ ?_).mono ?_;(· exact bcq);rintro e w3 ⟨v3,rfl,_,hb3⟩)
    (refine region_later (by kernel_rfl) (by kernel_rfl) ?_;(repeat (go_big_quiet_step (first|fail)));refine wpQuiet_nil ?_;rintro u8 ⟨xU,eU⟩;have hu8:=xU.h;rw [← eU] at hu8;clear eU xU)
    go_wp2;go_ret;exact ⟨by rw [HE.out];rfl,bcq⟩
   |true=>
    rw [hzb] at hE;simp only [if_true] at hE;subst hE
    by_cases hle:yl=zl
    case neg=>
     have HE:Hid (R=false):=by rw [HR.out];exact where_bad HZIP.out (by unfold zoneOk;dsimp only;rw [hzb, ←HYL2.out, ←HZL.out,decide_eq_false hle];rfl)
     have e5:((yl:Int) != (zl:Int))=true:=lens_ok.2 hle;clear hzb hle
     go_wp2_with (go_at_call 72;refine (CZ.out _ ?_).mono ?_;(· exact bcq);rintro e w3 ⟨v3,rfl,_,hb3⟩;have c7:=(hZ7.later hb3).cell;have d7:=(Box.cell (show Box w3 (w.heap.size+1) _ _ from (hW.old).later hb3));have hs7:=hb3.size;rw [World.size_alloc] at hs7;have s71:w.heap.size+1<w3.heap.size:=(by omega);have s72:wr.heap.size<w3.heap.size:=(by omega);have s73:g2<w3.heap.size:=(by omega);clear hs7;have y7:=(hb3.cell (p:=⟨g2,o2+k,none⟩) hg3).trans y8)
     (refine region_later (by kernel_rfl) (by kernel_rfl) ?_;(repeat (go_big_quiet_step (first|fail)));refine wpQuiet_nil ?_;rintro u8 ⟨xU,eU⟩;have hu8:=xU.h;rw [← eU] at hu8;clear eU xU)
     go_wp2;go_ret;exact ⟨by rw [HE.out];rfl,bcq⟩
    case pos=>
     have HE:Hid (zoneOk (z,y.ns)=true):=by unfold zoneOk;dsimp only;rw [hzb, ←HYL2.out, ←HZL.out,decide_eq_true hle];rfl
     subst hle;clear hzb
     go_wp2_with (go_at_call 72;refine (CZ.out _ ?_).mono ?_;(· exact bcq);rintro e w3 ⟨v3,rfl,_,hb3⟩;have c7:=(hZ7.later hb3).cell;have d7:=(Box.cell (show Box w3 (w.heap.size+1) _ _ from (hW.old).later hb3));have hs7:=hb3.size;rw [World.size_alloc] at hs7;have s71:w.heap.size+1<w3.heap.size:=(by omega);have s72:wr.heap.size<w3.heap.size:=(by omega);have s73:g2<w3.heap.size:=(by omega);clear hs7;have y7:=(hb3.cell (p:=⟨g2,o2+k,none⟩) hg3).trans y8)
     (refine region_later (by kernel_rfl) (by kernel_rfl) ?_;(repeat (go_big_quiet_step (first|fail)));refine wpQuiet_nil ?_;rintro u8 ⟨xU,eU⟩;have hu8:=xU.h;rw [← eU] at hu8;clear eU xU)
     have b38:Below wr.heap.size wr u8:=bcq;have HO8:=kj (RBk.own_lat HO.out b38);have HY8:=kj (HoldsG.later HYR.out (hbw.trans (b38.mono hbw.size)));have bV8:=B7.out u8 b38;have d8:=Box.cell (show Box u8 (w.heap.size+1) _ _ from hW.later b38);have y9:=(b38.cell (p:=⟨g2,o2+k,none⟩) (show g2<wr.heap.size by omega)).trans y0;have HYB:=kj hyl;have HLB:=kj hLl;clear hb3 hu8 c7 d7 y7 y8 hZ7 cT cW hT hW y0 z0 z1 b38 hg3
     go_wp2_with (at_builtin;refine IntS.wpList_app rfl _ _ rfl rfl HO8.out rfl HY8.out (by have h1:=HYB.out;have h2:=HLB.out;rw [← HYL2.out];omega) bV8.size ?_;intro v9 w9 ho9 hg9 hx9)
     have HO9:=kj ho9;have b9:=app_below bV8 bV8.size HO8.out hg9;clear ho9 hg9 hx9;go_roundw
     case rel=>exact ⟨k+1,v9,by go_num,rfl,by omega,b9,by rw [← HLN.out];exact HO9,Eqs.take_all HZIP.out HZ.out HE.out⟩
     case measure=>simp [intOf];omega
  ·obtain rfl:k=mz:=by omega
   have hZ:=HZ.out;have hO:=HO.out;rw [List.take_of_length_le (by rw [List.length_zip,List.length_map, ←HNZ.out, ←HMZ.out];omega)] at hZ;rw [List.take_of_length_le (by rw [List.length_map, ←HMZ.out];exact Nat.le_refl _)] at hO;obtain ⟨p,c,rfl,hp⟩:=HoldsG.pkI (HoldsI.of_own hO);obtain ⟨L,hL⟩:∃ L,L=xr++xl++(xe.map RowN.ns).flatten:=⟨_,rfl⟩;rw [← hL] at hp;have hn:L.length≤10200:=by
    rw [hL,List.length_append,List.length_append, ←HMR.out, ←HML.out];have:=flat_len (xe.map RowN.ns) (fun y hy=>by
     obtain ⟨u,hu,rfl⟩:=List.mem_map.1 hy;exact HYL.out u hu)
    rw [List.length_map, ←HMZ.out] at this;omega
   obtain ⟨n,hn2⟩:∃ n,n=L.length:=⟨_,rfl⟩;rw [← hL];rw [← hn2] at hn ⊢;have HL:=kj hL;have HP:=kj hp;have HN2:=kj hn2;have HZ2:=kj hZ;obtain ⟨w2,hw2⟩:∃ w2:World,w2=wr:=⟨_,rfl⟩;rw [← hw2] at hbr hbw HP ⊢;clear hw2 HO HZ hO hZ hL hp hn2 cT cW hT hW hs8 hs9 hsz
   go_wp2_with (first|fail)
   go_loopw [83] (fun i wr=>∃ j:Nat,i=.int .i64 j∧j≤n∧Below w2.heap.size w2 wr∧Hid ((L.take j).all (fun n=>decide ((1:Int)≤n))=true)) (fun i _=>n-(intOf i).toNat)
   case atStart=>exact ⟨0,rfl,Nat.zero_le _,Below.refl _ _,rfl⟩
   case round=>
    obtain ⟨j,rfl,hj,hbr3,HS⟩:=hrel;have hbw3:Below w.heap.size w wr:=hbw.trans (hbr3.mono hbw.size)
    by_cases hlt3:j<n
    ·obtain ⟨m,hm⟩:∃ m,L[j]? =some m:=⟨_,List.getElem?_eq_getElem (by rw [← HN2.out];exact hlt3)⟩;obtain ⟨g1,o1,rfl,hg1,d1⟩:=HP.out j m hm;have x0:=(hbr3.cell (p:=⟨g1,o1+j,none⟩) hg1).trans d1;have q1:(j:Int)<(n:Int):=by omega
     have HM:=kj hm;clear d1 hm
     by_cases h1:m<1
     ·have HE:Hid (R=false):=by rw [HR.out];exact where_low (k:=j) (n:=m) (by unfold lines;rw [← HL.out];exact HM.out) h1
      go_wp2;go_ret;exact ⟨by rw [HE.out];rfl,bcq⟩
     ·have h2:1≤m:=by omega
      clear h1;go_wp2;go_roundw
      case rel=>exact ⟨j+1,by go_num,by omega,bcq,Eqs.take_all HM.out HS.out (decide_eq_true h2)⟩
      case measure=>simp [intOf];omega
    ·obtain rfl:j=n:=by omega
     have hS:=HS.out;rw [List.take_of_length_le (by rw [← HN2.out];exact Nat.le_refl _)] at hS;have HE:Hid (R=true):=by
      rw [HR.out];refine whereB_of ?_ ?_ ?_ HZ2.out (by unfold lines;rw [← HL.out];exact hS)
      ·rw [← HMR.out, ←HNR.out]
      ·rw [List.length_map, ←HMZ.out, ←HNZ.out]
      ·rw [← HML.out, ←HNL.out]
     clear hS HS;go_wp2;go_ret;exact ⟨by rw [HE.out];rfl,bcq⟩
end RCk
end
end Go.Proofs.YtgmfojgnjdpofaaGreatDoor
