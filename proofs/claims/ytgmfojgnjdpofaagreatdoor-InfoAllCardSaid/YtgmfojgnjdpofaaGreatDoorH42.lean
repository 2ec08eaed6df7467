import Derived.Test.YtgmfojgnjdpofaaGreatDoorH38
import Derived.Test.YtgmfojgnjdpofaaGreatDoorH40
import Derived.Test.YtgmfojgnjdpofaaGreatDoorH41
namespace Go.Proofs.YtgmfojgnjdpofaaGreatDoor
open Go.Proofs.Tryz
open Go.RowKit NB
namespace RCk
open Ck
def fcs (f:Fault):Array Value:=#[.int .i64 f.1,.int .i64 f.2]
theorem row_at {es:List RowN} {k:Nat} {y:RowN} (h:es[k]? =some y):(es.map RowN.ns).getD k []=y.ns:=by
 rw [List.getD_eq_getElem?_getD,List.getElem?_map,h];rfl
theorem int_at {l:List Int} {k:Nat} {n:Int} (h:l[k]? =some n):l.getD k 0=n:=by
 rw [List.getD_eq_getElem?_getD,h];rfl
theorem bsetF {B:Nat} {V W:World} {b j:Nat} {v:Value} (h:Below B V W) (hb:B≤b):Below B V (W.setCell ⟨b,j,none⟩ v):=⟨h.os,h.tape,h.output,by simpa using h.size,fun k hk=>(Below.heap_setCell W ⟨b,j,none⟩ v k (show k≠b by omega)).trans (h.block k hk)⟩
set_option maxRecDepth 100000 in
set_option maxHeartbeats 12800000 in
theorem Check {w:World} {t:TabV} {x:WhV} (h:HoldsC w t) (hx:HoldsW w x) (hrs:t.rs.length≤12) (hzl:t.zs.length≤100) (hel:∀ z∈t.zs,z.es.length≤1000) (hkl:t.ls.length≤100) (hrl:x.rs.length≤100) (hll:x.ls.length≤100) (hyl:∀ y∈x.es,y.ns.length≤100):
 Calls prog 150 #[.agg #[t.rv,t.zv,t.lv],.agg #[x.rv,x.ev,x.lv]] w fun e w'=>e=.returned (.agg (fcs (chk t.rs t.zs t.ls x.rs (x.es.map RowN.ns) x.ls)))∧Below w.heap.size w w':=by
 obtain ⟨R,hR⟩:∃ r,r=chk t.rs t.zs t.ls x.rs (x.es.map RowN.ns) x.ls:=⟨_,rfl⟩;rw [← hR];unfold chk at hR;obtain ⟨WB,hWB⟩:∃ b,b=Ck.whereB t.rs.length t.zs t.ls.length x.rs (x.es.map RowN.ns) x.ls:=⟨_,rfl⟩;rw [← hWB] at hR;have cw:=fun (X:World) (hX:Below w.heap.size w X)=>Where (h.h.later hX) (hx.later hX) hzl hel hrl hll hyl;rw [← hWB] at cw;have cera:=fun (X:World) (hX:Below w.heap.size w X) {z i:Nat} {y:ZoneV} {e:EraV} (hz:t.zs[z]? =some y) (he:y.es[i]? =some e)=>era (h.h.later hX) hz he hrs (by omega) (by have:=hel y (List.mem_of_getElem? hz);omega);have crule:=fun (X:World) (hX:Below w.heap.size w X) {i:Nat} (hi:i<t.rs.length)=>rule (h.h.later hX) h.r hi hrs;have clink:=fun (X:World) (hX:Below w.heap.size w X) {i:Nat} {y:LinkV} (hy:t.ls[i]? =some y)=>link (h.h.later hX) h.l hy (by omega) (by omega);obtain ⟨rv,zv,lv,rs,zs,ls⟩:=t;obtain ⟨xrv,xev,xlv,xr,xe,xl⟩:=x;have hzf:=h.h.zf;have hef:=hx.ef;obtain ⟨pr,cr,e1⟩:=h.h.r.form;obtain ⟨pz,cz,e2,hpz⟩:=h.h.z.pk;obtain ⟨pl,cl,e3⟩:=h.h.l.form;obtain ⟨px,cx,e4,hpx⟩:=HoldsG.pkI hx.r;obtain ⟨pe,ce,e5,hpe⟩:=hx.e.pk;obtain ⟨py,cy,e6,hpy⟩:=HoldsG.pkI hx.l;dsimp only at e1 e2 e3 e4 e5 e6 hpz hpe hpx hpy hzf hef hzl hel hkl hrl hll hyl hrs hR hWB cw cera crule clink ⊢;subst e1 e2 e3 e4 e5 e6;clear h hx;obtain ⟨nr,hnr⟩:∃ n,n=rs.length:=⟨_,rfl⟩;obtain ⟨nz,hnz⟩:∃ n,n=zs.length:=⟨_,rfl⟩;obtain ⟨nl,hnl⟩:∃ n,n=ls.length:=⟨_,rfl⟩;obtain ⟨mr,hmr⟩:∃ n,n=xr.length:=⟨_,rfl⟩;obtain ⟨mz,hmz⟩:∃ n,n=xe.length:=⟨_,rfl⟩;obtain ⟨ml,hml⟩:∃ n,n=xl.length:=⟨_,rfl⟩;rw [← hnr, ←hnz, ←hnl, ←hmr, ←hmz, ←hml] at cw ⊢;rw [← hnr, ←hnz, ←hnl] at cera crule clink;rw [← hnz] at hzl;rw [← hnr] at hrs;rw [← hnl] at hkl;rw [← hmr] at hrl;rw [← hml] at hll;have HPZ:=kj hpz;have HPE:=kj hpe;have HPX:=kj hpx;have HPY:=kj hpy;have HZF:=kj hzf;have HEF:=kj hef;have HEL:=kj hel;have HNR:=kj hnr;have HNZ:=kj hnz;have HNL:=kj hnl;have HMR:=kj hmr;have HMZ:=kj hmz;have HML:=kj hml;have HR:=kj hR;have HWB:=kj hWB;have CW:=kj cw;have CERA:=kj @cera;have CRULE:=kj @crule;have CLINK:=kj @clink;clear hpz hpe hpx hpy hzf hef hel hnr hnz hnl hmr hmz hml hR hWB cw cera crule clink hyl;obtain ⟨V,hV⟩:∃ V,V=(((w.alloc (.cells #[.slice pr nr cr,.slice pz nz cz,.slice pl nl cl] 26)).alloc (.cells #[.slice px mr cx,.slice pe mz ce,.slice py ml cy] 202)).alloc (.cells #[.int .i64 0,.int .i64 0] 149)):=⟨_,rfl⟩;have hbV:Below w.heap.size w V:=by rw [hV];exact bcq
 have hbT:Box V w.heap.size #[.slice pr nr cr,.slice pz nz cz,.slice pl nl cl] 26:=by rw [hV];exact (Box.new w _ _).old.old
 have hbW:Box V (w.heap.size+1) #[.slice px mr cx,.slice pe mz ce,.slice py ml cy] 202:=by
  rw [hV];have:=(Box.new (w.alloc (.cells #[.slice pr nr cr,.slice pz nz cz,.slice pl nl cl] 26)) #[.slice px mr cx,.slice pe mz ce,.slice py ml cy] 202).old (o:=.cells #[.int .i64 0,.int .i64 0] 149)
  simpa using this
 have hbR:Box V (w.heap.size+1+1) #[.int .i64 0,.int .i64 0] 149:=by
  rw [hV];have:=Box.new ((w.alloc (.cells #[.slice pr nr cr,.slice pz nz cz,.slice pl nl cl] 26)).alloc (.cells #[.slice px mr cx,.slice pe mz ce,.slice py ml cy] 202)) #[.int .i64 0,.int .i64 0] 149
  simpa using this
 have hsV:w.heap.size+1+1<V.heap.size:=hbR.lt;have HV:=kj hV;clear hV;cases WB with
 |false=>
  have HE:Hid (R=(0,4)):=by rw [HR.out];rfl
  go_enter func150,ntmps150
  go_wp2_with (go_at_call 207;rw [← HV.out];refine (CW.out V hbV).mono ?_;rintro e w1 ⟨rfl,hb1⟩;have f1:=(hbR.later hb1).free;have cR:=(hbR.later hb1).cell)
  rw [HE.out];refine bodyPost_ret (v:=.agg #[.int .i64 0,.int .i64 4]) ?_ rfl ⟨rfl,?_⟩
  ·have c1:=((hbR.later hb1).set (j:=0) (v:=.int .i64 0)).set (j:=1) (v:=.int .i64 4);have c2:=c1.cell;simp only [results,results150];go_simp
  ·exact bcq
 |true=>
  have HE:Hid (R=run (0,0) (all rs zs ls xr (xe.map RowN.ns) xl)):=by rw [HR.out];rfl
  go_enter func150,ntmps150
  go_wp2_with (go_at_call 207;rw [← HV.out];refine (CW.out V hbV).mono ?_;rintro e w1 ⟨rfl,hb1⟩;have f1:=(hbR.later hb1).free;have cT:=(hbT.later hb1).cell;have hs1:=Nat.lt_of_lt_of_le hsV hb1.size;have hs2:w.heap.size<w1.heap.size:=(by omega))
  clear cT f1;have hB1:Below w.heap.size w w1:=hbV.trans (hb1.mono hbV.size);have hT1:=hbT.later hb1;have hW1:=hbW.later hb1;have hR1:=hbR.later hb1;obtain ⟨hp1,hp2,hp3,hp4,_⟩:=where_parts HWB.out.symm;have HP4:=kj hp4;obtain rfl:mr=nr:=by rw [HMR.out,HNR.out];exact hp1
  obtain rfl:mz=nz:=by rw [HMZ.out,HNZ.out];rw [List.length_map] at hp2;exact hp2
  obtain rfl:ml=nl:=by rw [HML.out,HNL.out];exact hp3
  clear hp1 hp2 hp3 hp4;have hs3:w.heap.size+1<w1.heap.size:=by omega
  obtain ⟨F,hF⟩:∃ F,F=w1.heap.size:=⟨_,rfl⟩;have hF0:Box (w1.alloc (.cells #[.int .i64 0,.int .i64 0] 149)) F #[.int .i64 0,.int .i64 0] 149:=by rw [hF];exact Box.new _ _ _
  have hb2:Below F w1 (w1.alloc (.cells #[.int .i64 0,.int .i64 0] 149)):=by rw [hF];exact bcq
  rw [← hF] at hs1 hs2 hs3 ⊢;have hTl:=fun X (hX:Below F w1 X)=>show Box X w.heap.size _ _ from (hX.block _ hs2).trans hT1;have hWl:=fun X (hX:Below F w1 X)=>show Box X (w.heap.size+1) _ _ from (hX.block _ hs3).trans hW1;have hRl:=fun X (hX:Below F w1 X)=>show Box X (w.heap.size+1+1) _ _ from (hX.block _ hs1).trans hR1;have hBl:=fun X (hX:Below F w1 X)=>show Below w.heap.size w X from hB1.trans (hX.mono (Nat.le_of_lt hs2));have HTL:=kj hTl;have HWL:=kj hWl;have HRL:=kj hRl;have HBL:=kj hBl;have HF1:=kj hF;clear hTl hWl hRl hBl hT1 hW1 hR1 hF
  go_loopw [20] (fun i wr=>∃ (k:Nat) (f1 f2:Int),i=.int .i64 k∧k≤mz∧Below F w1 wr∧Hid (Box wr F #[.int .i64 f1,.int .i64 f2] 149)∧Hid ((f1,f2)=run (0,0) (zoneTo rs zs (xe.map RowN.ns) k))) (fun i _=>mz-(intOf i).toNat)
  case atStart=>exact ⟨0,0,0,rfl,Nat.zero_le _,hb2,hF0,rfl⟩
  case round=>
   clear hF0 hb2;obtain ⟨k,g1,g2,rfl,hk,hbr,HF,HS⟩:=hrel;have hbw:=HBL.out _ hbr;have hsz:=hbr.size;have hT:=HTL.out _ hbr;have cT:=hT.cell
   by_cases hlt:k<mz
   ·obtain ⟨z,hz⟩:∃ z,zs[k]? =some z:=⟨_,List.getElem?_eq_getElem (by rw [← HNZ.out];exact hlt)⟩;obtain ⟨y,hy⟩:∃ y,xe[k]? =some y:=⟨_,List.getElem?_eq_getElem (by rw [← HMZ.out];exact hlt)⟩;obtain ⟨b1,o1,rfl,hg1,d1⟩:=HPZ.out k z hz;have z0:=(hbw.cell (p:=⟨b1,o1+k*2+0,none⟩) hg1).trans (d1 0 _ rfl);have z1:=(hbw.cell (p:=⟨b1,o1+k*2+1,none⟩) hg1).trans (d1 1 _ rfl);rw [Nat.add_zero] at z0;obtain ⟨b2,o2,rfl,hg2,d2⟩:=HPE.out k y hy;have y0:=d2 0 _ rfl;rw [Nat.mul_one,Nat.add_zero] at y0;have hzf:=HZF.out z (List.mem_of_getElem? hz);have hyf:=HEF.out y (List.mem_of_getElem? hy);obtain ⟨pp,cc,hv⟩:=hzf.e.form;obtain ⟨pq,cq,hv2,hpq⟩:=HoldsG.pkI hyf.h;have hlen:y.ns.length=z.es.length:=(HP4.out (z,y.ns) (List.mem_of_getElem? (zip_at hz (by rw [List.getElem?_map,hy];rfl)))).2;rw [hv] at z1;replace y0:w.cell? ⟨b2,o2+k,none⟩=some (.slice pq y.ns.length cq):=by rw [y0,hv2]
    rw [hlen] at y0;obtain ⟨ne,hne⟩:∃ n,n=z.es.length:=⟨_,rfl⟩;rw [← hne] at y0 z1 hlen;have hnel:ne≤1000:=by rw [hne];exact HEL.out z (List.mem_of_getElem? hz)
    have HZ:=kj hz;have HY:=kj hy;have HPQ:=kj hpq;have HLEN:=kj hlen;have HNE:=kj hne;have HY0:=kj y0;have q1:(k:Int)<(mz:Int):=by omega
    clear d1 d2 hzf hyf hv hv2 hpq hlen hne hz hy y0
    go_wp2_with (first|fail)
    clear z0 z1
    go_loopw [28] (fun i wr=>∃ (i9:Nat) (f1 f2:Int),i=.int .i64 i9∧i9≤ne∧Below F w1 wr∧Hid (Box wr F #[.int .i64 f1,.int .i64 f2] 149)∧Hid ((f1,f2)=run (g1,g2) ((eraFs rs ((zs.take k).map ZoneV.name) z.name z.es y.ns).take i9))) (fun i _=>ne-(intOf i).toNat)
    case atStart=>exact ⟨0,g1,g2,rfl,Nat.zero_le _,hbr.alloc (show F≤wr.heap.size by rw [HF1.out];exact hbr.size) _,kj (by have:=HF.out;exact bxq),rfl⟩
    case round=>
     clear hbr HF hbw hsz hT cT;obtain ⟨i,f1,f2,rfl,hi,hbr,HFB,HS2⟩:=hrel;have hbw:=HBL.out _ hbr
     by_cases hlt2:i<ne
     ·obtain ⟨e,he⟩:∃ e,z.es[i]? =some e:=⟨_,List.getElem?_eq_getElem (by rw [← HNE.out];exact hlt2)⟩;obtain ⟨q,hq⟩:∃ q,y.ns[i]? =some q:=⟨_,List.getElem?_eq_getElem (by rw [HLEN.out];exact hlt2)⟩;obtain ⟨b3,o3,rfl,hg3,d3⟩:=HPQ.out i q hq;obtain ⟨ER,hER⟩:∃ r,r=Ck.eraF rs ((zs.take k).map ZoneV.name) z.name z.es i e:=⟨_,rfl⟩;have cer:=fun X (hX:Below w.heap.size w X)=>CERA.out X hX HZ.out he;rw [← hER] at cer;have CER:=kj cer;have hstep:=run_take (eraFs_at (l:=rs) (done:=(zs.take k).map ZoneV.name) (name:=z.name) (ns:=y.ns) he) (g1,g2);rw [← hER,int_at hq, ←HS2.out] at hstep;have HSTEP:=kj hstep;have hFb:=HFB.out;have hFl:=hFb.lt;have hbs:F≤wr.heap.size:=by rw [HF1.out];exact hbr.size
      have hS:∀ U,Below wr.heap.size wr U→U.cell? ⟨F,0,none⟩=some (.int .i64 f1)∧U.cell? ⟨F,1,none⟩=some (.int .i64 f2)∧U.cell? ⟨w.heap.size+1,1,none⟩=some (.slice (some ⟨b2,o2,none⟩) mz ce)∧U.cell? ⟨b2,o2+k,none⟩=some (.slice (some ⟨b3,o3,none⟩) ne cq)∧U.cell? ⟨b3,o3+i,none⟩=some (.int .i64 q)∧U.cell? ⟨w.heap.size,0,none⟩=some (.slice pr mr cr)∧U.cell? ⟨w.heap.size,1,none⟩=some (.slice (some ⟨b1,o1,none⟩) mz cz)∧U.cell? ⟨w.heap.size,2,none⟩=some (.slice pl ml cl):=fun U hU=>by
       have hU1:Below F w1 U:=hbr.trans (hU.mono hbs);have hUw:=HBL.out _ hU1;have bx:Box U F _ _:=(hU.block _ hFl).trans hFb;exact ⟨bx.cell 0,bx.cell 1,(HWL.out _ hU1).cell 1,(hUw.cell (p:=⟨b2,o2+k,none⟩) hg2).trans HY0.out,(hUw.cell (p:=⟨b3,o3+i,none⟩) hg3).trans d3,(HTL.out _ hU1).cell 0,(HTL.out _ hU1).cell 1,(HTL.out _ hU1).cell 2⟩
      have q2:(i:Int)<(ne:Int):=by omega
      clear d3 he hq hER cer hstep
      go_wp2_with (first|fail)
      refine wp_region_noPanic ?_;refine wp_region_heldM (fun U=>U.cell? ⟨F,0,none⟩=some (.int .i64 f1)∧U.cell? ⟨F,1,none⟩=some (.int .i64 f2)∧U.cell? ⟨w.heap.size+1,1,none⟩=some (.slice (some ⟨b2,o2,none⟩) mz ce)∧U.cell? ⟨b2,o2+k,none⟩=some (.slice (some ⟨b3,o3,none⟩) ne cq)∧U.cell? ⟨b3,o3+i,none⟩=some (.int .i64 q)∧U.cell? ⟨w.heap.size,0,none⟩=some (.slice pr mr cr)∧U.cell? ⟨w.heap.size,1,none⟩=some (.slice (some ⟨b1,o1,none⟩) mz cz)∧U.cell? ⟨w.heap.size,2,none⟩=some (.slice pl ml cl)) 15 (by kernel_rfl) (hS _ (Below.refl _ _).drew) ?_;intro U hU hSU;have hUb:Below wr.heap.size wr U:=by rw [hU];exact (Below.refl _ _).drew
      clear hU
      (refine wpAnyM_take (i:=0) (v:= ?va0) rfl (by kernel_rfl) (by kernel_rfl) (by kernel_rfl) [] (by kernel_rfl) (by kernel_rfl) (fun _ _ _ h=>h) (Or.inl ⟨by rfl,?ya0⟩) hSU ?ra0;(case ya0=>(intro w hSw;(try dsimp only at hSw);go_simp;(try with_reducible rfl)));(try simp only [Act.put,List.setIfInBounds_toArray]))
      (refine wpAnyM_take (i:=1) (v:= ?va1) rfl (by kernel_rfl) (by kernel_rfl) (by kernel_rfl) [] (by kernel_rfl) (by kernel_rfl) (fun _ _ _ h=>h) (Or.inl ⟨by rfl,?ya1⟩) hSU ?ra1;(case ya1=>(intro w hSw;(try dsimp only at hSw);go_simp;(try with_reducible rfl)));(try simp only [Act.put]))
      (refine wpAnyM_take (i:=2) (v:= ?va2) rfl (by kernel_rfl) (by kernel_rfl) (by kernel_rfl) [] (by kernel_rfl) (by kernel_rfl) (fun _ _ _ h=>h) (Or.inl ⟨by rfl,?ya2⟩) hSU ?ra2;(case ya2=>(intro w hSw;(try dsimp only at hSw);go_simp;(try with_reducible rfl)));(try simp only [Act.put]))
      (refine wpAnyM_take (i:=3) (v:= ?va3) rfl (by kernel_rfl) (by kernel_rfl) (by kernel_rfl) [] (by kernel_rfl) (by kernel_rfl) (fun _ _ _ h=>h) (Or.inl ⟨by rfl,?ya3⟩) hSU ?ra3;(case ya3=>(intro w hSw;(try dsimp only at hSw);go_simp;(try with_reducible rfl)));(try simp only [Act.put]))
      (refine wpAnyM_take (i:=4) (v:= ?va4) rfl (by kernel_rfl) (by kernel_rfl) (by kernel_rfl) [] (by kernel_rfl) (by kernel_rfl) (fun _ _ _ h=>h) (Or.inl ⟨by rfl,?ya4⟩) hSU ?ra4;(case ya4=>(intro w hSw;(try dsimp only at hSw);go_simp;(try with_reducible rfl)));(try simp only [Act.put]))
      (refine wpAnyM_take (i:=5) (v:= ?va5) rfl (by kernel_rfl) (by kernel_rfl) (by kernel_rfl) [] (by kernel_rfl) (by kernel_rfl) (fun _ _ _ h=>h) (Or.inl ⟨by rfl,?ya5⟩) hSU ?ra5;(case ya5=>(intro w hSw;(try dsimp only at hSw);go_simp;(try with_reducible rfl)));(try simp only [Act.put]))
      (refine wpAnyM_take (i:=6) (v:= ?va6) rfl (by kernel_rfl) (by kernel_rfl) (by kernel_rfl) [] (by kernel_rfl) (by kernel_rfl) (fun _ _ _ h=>h) (Or.inl ⟨by rfl,?ya6⟩) hSU ?ra6;(case ya6=>(intro w hSw;(try dsimp only at hSw);go_simp;(try with_reducible rfl)));(try simp only [Act.put]))
      (refine wpAnyM_take (i:=7) (v:= ?va7) rfl (by kernel_rfl) (by kernel_rfl) (by kernel_rfl) [] (by kernel_rfl) (by kernel_rfl) (fun _ _ _ h=>h) (Or.inl ⟨by rfl,?ya7⟩) hSU ?ra7;(case ya7=>(intro w hSw;(try dsimp only at hSw);go_simp;(try with_reducible rfl)));(try simp only [Act.put]))
      (refine wpAnyM_take (i:=8) (v:= ?va8) rfl (by kernel_rfl) (by kernel_rfl) (by kernel_rfl) [] (by kernel_rfl) (by kernel_rfl) (fun _ _ _ h=>h) (Or.inl ⟨by rfl,?ya8⟩) hSU ?ra8;(case ya8=>(intro w hSw;(try dsimp only at hSw);go_simp;(try with_reducible rfl)));(try simp only [Act.put]))
      (refine wpAnyM_take (i:=9) (v:= ?va9) rfl (by kernel_rfl) (by kernel_rfl) (by kernel_rfl) [] (by kernel_rfl) (by kernel_rfl) (fun _ _ _ h=>h) (Or.inl ⟨by rfl,?ya9⟩) hSU ?ra9;(case ya9=>(intro w hSw;(try dsimp only at hSw);go_simp;(try with_reducible rfl)));(try simp only [Act.put]))
      (refine wpAnyM_take (i:=10) (v:= ?va10) rfl (by kernel_rfl) (by kernel_rfl) (by kernel_rfl) [] (by kernel_rfl) (by kernel_rfl) (fun _ _ _ h=>h) (Or.inl ⟨by rfl,?ya10⟩) hSU ?ra10;(case ya10=>(intro w hSw;(try dsimp only at hSw);go_simp;(try with_reducible rfl)));(try simp only [Act.put]))
      (refine wpAnyM_take (i:=11) (v:= ?va11) rfl (by kernel_rfl) (by kernel_rfl) (by kernel_rfl) [] (by kernel_rfl) (by kernel_rfl) (fun _ _ _ h=>h) (Or.inl ⟨by rfl,?ya11⟩) hSU ?ra11;(case ya11=>(intro w hSw;(try dsimp only at hSw);go_simp;(try with_reducible rfl)));(try simp only [Act.put]))
      (refine wpAnyM_all (rs:=[12]) (by kernel_rfl) (by simp) (List.forall_mem_cons.2 ⟨?_,(fun _ h=>by cases h)⟩);refine wpOp_step rfl (fun K hK=> ?_))
      go_simp
      go_at_call 209
      refine (CER.out U (HBL.out _ (hbr.trans (hUb.mono hbs)))).mono ?_;rintro e4 U1 ⟨rfl,hu1⟩;have hU1:=hUb.trans (hu1.mono hUb.size);refine hK _ _ ⟨.inr (hS _ hU1),?_⟩;clear hK K
      (try simp only [Act.put,List.setIfInBounds_toArray,List.set_cons_zero,List.set_cons_succ])
      have hSU1:=hS _ hU1
      (refine wpAnyM_take (i:=13) (v:= ?va13) rfl (by kernel_rfl) (by kernel_rfl) (by kernel_rfl) [] (by kernel_rfl) (by kernel_rfl) (fun _ _ _ h=>h) (Or.inl ⟨by rfl,?ya13⟩) hSU1 ?ra13;(case ya13=>(intro w hSw;(try dsimp only at hSw);go_simp;(try with_reducible rfl)));(try simp only [Act.put,List.setIfInBounds_toArray]))
      (refine wpAnyM_all (rs:=[14]) (by kernel_rfl) (by simp) (List.forall_mem_cons.2 ⟨?_,(fun _ h=>by cases h)⟩);refine wpOp_step rfl (fun K hK=> ?_))
      go_simp
      go_at_call 208
      refine (RCk.less (f1,f2) (q,ER) U1).mono ?_;rintro e5 U2 ⟨rfl,hu2⟩;have hU2:=hU1.trans (hu2.mono hU1.size);have hbx:=(show Box U2 F _ _ from (hU2.block _ hFl).trans hFb);have cF:=hbx.cell;have fF:=hbx.free;refine hK _ _ ⟨.inr (hS _ hU2),?_⟩;clear hK K
      (try simp only [Act.put,List.setIfInBounds_toArray,List.set_cons_zero,List.set_cons_succ])
      (refine wpAnyM_all (rs:=[15]) (by kernel_rfl) (by simp) (List.forall_mem_cons.2 ⟨?_,(fun _ h=>by cases h)⟩);refine wpOp_step rfl (fun K hK=> ?_))
      go_simp;refine hK _ _ ⟨.inl rfl,?_⟩;clear hK K;refine wpAnyM_done (by kernel_rfl) (NoPanic.normal ?_) _;have hF9:Hid (Box ((U2.setCell ⟨F,0,none⟩ (.int .i64 (Ck.less (f1,f2) (q,ER)).1)).setCell ⟨F,1,none⟩ (.int .i64 (Ck.less (f1,f2) (q,ER)).2)) F #[.int .i64 (Ck.less (f1,f2) (q,ER)).1,.int .i64 (Ck.less (f1,f2) (q,ER)).2] 149):=(hbx.set (j:=0)).set (j:=1);have hb9:Hid (Below F w1 ((U2.setCell ⟨F,0,none⟩ (.int .i64 (Ck.less (f1,f2) (q,ER)).1)).setCell ⟨F,1,none⟩ (.int .i64 (Ck.less (f1,f2) (q,ER)).2))):=bsetF (bsetF (hbr.trans (hU2.mono hbs)) (Nat.le_refl _)) (Nat.le_refl _);clear hbx cF fF hSU hSU1 hUb hU1 hU2 hu1 hu2 hS hFb;go_wp2;go_roundw
      case rel=>exact ⟨i+1,_,_,by go_num,by omega,hb9.out,hF9,HSTEP.out.symm⟩
      case measure=>simp [intOf];omega
     ·obtain rfl:ne=i:=by omega
      have hS2:=HS2.out;rw [List.take_of_length_le (by rw [eraFs_len, ←HNE.out];exact Nat.le_refl _)] at hS2;have HS3:Hid ((f1,f2)=run (0,0) (zoneTo rs zs (xe.map RowN.ns) (k+1))):=by
       rw [zoneTo_succ HZ.out,run_app, ←HS.out,row_at HY.out];exact hS2
      clear hS2 HS2 HS;go_wp2;go_roundw
      case rel=>exact ⟨k+1,f1,f2,by go_num,by omega,hbr,HFB,HS3⟩
      case measure=>simp [intOf];omega
   ·obtain rfl:mz=k:=by omega
    have hS:=HS.out;rw [HNZ.out,zoneTo_all] at hS;have HH:=kj hS;clear hS HS hT
    go_wp2_with (first|fail)
    go_loopw [51] (fun i wr=>∃ (i9:Nat) (c1 c2:Int),i=.int .i64 i9∧i9≤mr∧Below F w1 wr∧Hid (Box wr F #[.int .i64 c1,.int .i64 c2] 149)∧Hid ((c1,c2)=run (g1,g2) ((ruleFs rs xr).take i9))) (fun i _=>mr-(intOf i).toNat)
    case atStart=>exact ⟨0,g1,g2,rfl,Nat.zero_le _,hbr,HF,rfl⟩
    case round=>
     clear hbr HF hbw cT;obtain ⟨i,c1,c2,rfl,hi,hbr,HFB,HS2⟩:=hrel;have hbw:=HBL.out _ hbr
     by_cases hlt2:i<mr
     ·skip
      obtain ⟨q,hq⟩:∃ q,xr[i]? =some q:=⟨_,List.getElem?_eq_getElem (by rw [← HMR.out];exact hlt2)⟩;obtain ⟨b3,o3,rfl,hg3,d3⟩:=HPX.out i q hq;obtain ⟨ER,hER⟩:∃ r,r=Ck.ruleF rs i:=⟨_,rfl⟩;have cer:=fun X (hX:Below w.heap.size w X)=>CRULE.out X hX (show i<_ from hlt2);rw [← hER] at cer;have CER:=kj cer;have hstep:=run_take (ruleFs_at (l:=rs) (rs:=xr) (by rw [← HNR.out];exact hlt2)) (g1,g2);rw [← hER,int_at hq, ←HS2.out] at hstep;have HSTEP:=kj hstep;have hFb:=HFB.out;have hFl:=hFb.lt;have hbs:F≤wr.heap.size:=by rw [HF1.out];exact hbr.size
      have hS:∀ U,Below wr.heap.size wr U→U.cell? ⟨F,0,none⟩=some (.int .i64 c1)∧U.cell? ⟨F,1,none⟩=some (.int .i64 c2)∧U.cell? ⟨w.heap.size+1,0,none⟩=some (.slice (some ⟨b3,o3,none⟩) mr cx)∧U.cell? ⟨b3,o3+i,none⟩=some (.int .i64 q)∧U.cell? ⟨w.heap.size,0,none⟩=some (.slice pr mr cr)∧U.cell? ⟨w.heap.size,1,none⟩=some (.slice pz mz cz)∧U.cell? ⟨w.heap.size,2,none⟩=some (.slice pl ml cl):=fun U hU=>by
       have hU1:Below F w1 U:=hbr.trans (hU.mono hbs);have hUw:=HBL.out _ hU1;have bx:Box U F _ _:=(hU.block _ hFl).trans hFb;exact ⟨bx.cell 0,bx.cell 1,(HWL.out _ hU1).cell 0,(hUw.cell (p:=⟨b3,o3+i,none⟩) hg3).trans d3,(HTL.out _ hU1).cell 0,(HTL.out _ hU1).cell 1,(HTL.out _ hU1).cell 2⟩
      have q2:(i:Int)<(mr:Int):=by omega
      clear d3 hq hER cer hstep
      go_wp2_with (first|fail)
      refine wp_region_noPanic ?_;refine wp_region_heldM (fun U=>U.cell? ⟨F,0,none⟩=some (.int .i64 c1)∧U.cell? ⟨F,1,none⟩=some (.int .i64 c2)∧U.cell? ⟨w.heap.size+1,0,none⟩=some (.slice (some ⟨b3,o3,none⟩) mr cx)∧U.cell? ⟨b3,o3+i,none⟩=some (.int .i64 q)∧U.cell? ⟨w.heap.size,0,none⟩=some (.slice pr mr cr)∧U.cell? ⟨w.heap.size,1,none⟩=some (.slice pz mz cz)∧U.cell? ⟨w.heap.size,2,none⟩=some (.slice pl ml cl)) 11 (by kernel_rfl) (hS _ (Below.refl _ _).drew) ?_;intro U hU hSU;have hUb:Below wr.heap.size wr U:=by rw [hU];exact (Below.refl _ _).drew
      clear hU
      (refine wpAnyM_take (i:=0) (v:= ?v510) rfl (by kernel_rfl) (by kernel_rfl) (by kernel_rfl) [] (by kernel_rfl) (by kernel_rfl) (fun _ _ _ h=>h) (Or.inl ⟨by rfl,?y510⟩) hSU ?r510;(case y510=>(intro w hSw;(try dsimp only at hSw);go_simp;(try with_reducible rfl)));(try simp only [Act.put,List.setIfInBounds_toArray]))
      (refine wpAnyM_take (i:=1) (v:= ?v511) rfl (by kernel_rfl) (by kernel_rfl) (by kernel_rfl) [] (by kernel_rfl) (by kernel_rfl) (fun _ _ _ h=>h) (Or.inl ⟨by rfl,?y511⟩) hSU ?r511;(case y511=>(intro w hSw;(try dsimp only at hSw);go_simp;(try with_reducible rfl)));(try simp only [Act.put]))
      (refine wpAnyM_take (i:=2) (v:= ?v512) rfl (by kernel_rfl) (by kernel_rfl) (by kernel_rfl) [] (by kernel_rfl) (by kernel_rfl) (fun _ _ _ h=>h) (Or.inl ⟨by rfl,?y512⟩) hSU ?r512;(case y512=>(intro w hSw;(try dsimp only at hSw);go_simp;(try with_reducible rfl)));(try simp only [Act.put]))
      (refine wpAnyM_take (i:=3) (v:= ?v513) rfl (by kernel_rfl) (by kernel_rfl) (by kernel_rfl) [] (by kernel_rfl) (by kernel_rfl) (fun _ _ _ h=>h) (Or.inl ⟨by rfl,?y513⟩) hSU ?r513;(case y513=>(intro w hSw;(try dsimp only at hSw);go_simp;(try with_reducible rfl)));(try simp only [Act.put]))
      (refine wpAnyM_take (i:=4) (v:= ?v514) rfl (by kernel_rfl) (by kernel_rfl) (by kernel_rfl) [] (by kernel_rfl) (by kernel_rfl) (fun _ _ _ h=>h) (Or.inl ⟨by rfl,?y514⟩) hSU ?r514;(case y514=>(intro w hSw;(try dsimp only at hSw);go_simp;(try with_reducible rfl)));(try simp only [Act.put]))
      (refine wpAnyM_take (i:=5) (v:= ?v515) rfl (by kernel_rfl) (by kernel_rfl) (by kernel_rfl) [] (by kernel_rfl) (by kernel_rfl) (fun _ _ _ h=>h) (Or.inl ⟨by rfl,?y515⟩) hSU ?r515;(case y515=>(intro w hSw;(try dsimp only at hSw);go_simp;(try with_reducible rfl)));(try simp only [Act.put]))
      (refine wpAnyM_take (i:=6) (v:= ?v516) rfl (by kernel_rfl) (by kernel_rfl) (by kernel_rfl) [] (by kernel_rfl) (by kernel_rfl) (fun _ _ _ h=>h) (Or.inl ⟨by rfl,?y516⟩) hSU ?r516;(case y516=>(intro w hSw;(try dsimp only at hSw);go_simp;(try with_reducible rfl)));(try simp only [Act.put]))
      (refine wpAnyM_take (i:=7) (v:= ?v517) rfl (by kernel_rfl) (by kernel_rfl) (by kernel_rfl) [] (by kernel_rfl) (by kernel_rfl) (fun _ _ _ h=>h) (Or.inl ⟨by rfl,?y517⟩) hSU ?r517;(case y517=>(intro w hSw;(try dsimp only at hSw);go_simp;(try with_reducible rfl)));(try simp only [Act.put]))
      (refine wpAnyM_all (rs:=[8]) (by kernel_rfl) (by simp) (List.forall_mem_cons.2 ⟨?_,(fun _ h=>by cases h)⟩);refine wpOp_step rfl (fun K hK=> ?_))
      go_simp
      go_at_call 210
      refine (CER.out U (HBL.out _ (hbr.trans (hUb.mono hbs)))).mono ?_;rintro e4 U1 ⟨rfl,hu1⟩;have hU1:=hUb.trans (hu1.mono hUb.size);refine hK _ _ ⟨.inr (hS _ hU1),?_⟩;clear hK K
      (try simp only [Act.put,List.setIfInBounds_toArray,List.set_cons_zero,List.set_cons_succ])
      have hSU1:=hS _ hU1
      (refine wpAnyM_take (i:=9) (v:= ?v519) rfl (by kernel_rfl) (by kernel_rfl) (by kernel_rfl) [] (by kernel_rfl) (by kernel_rfl) (fun _ _ _ h=>h) (Or.inl ⟨by rfl,?y519⟩) hSU1 ?r519;(case y519=>(intro w hSw;(try dsimp only at hSw);go_simp;(try with_reducible rfl)));(try simp only [Act.put,List.setIfInBounds_toArray]))
      (refine wpAnyM_all (rs:=[10]) (by kernel_rfl) (by simp) (List.forall_mem_cons.2 ⟨?_,(fun _ h=>by cases h)⟩);refine wpOp_step rfl (fun K hK=> ?_))
      go_simp
      go_at_call 208
      refine (RCk.less (c1,c2) (q,ER) U1).mono ?_;rintro e5 U2 ⟨rfl,hu2⟩;have hU2:=hU1.trans (hu2.mono hU1.size);have hbx:=(show Box U2 F _ _ from (hU2.block _ hFl).trans hFb);have cF:=hbx.cell;have fF:=hbx.free;refine hK _ _ ⟨.inr (hS _ hU2),?_⟩;clear hK K
      (try simp only [Act.put,List.setIfInBounds_toArray,List.set_cons_zero,List.set_cons_succ])
      (refine wpAnyM_all (rs:=[11]) (by kernel_rfl) (by simp) (List.forall_mem_cons.2 ⟨?_,(fun _ h=>by cases h)⟩);refine wpOp_step rfl (fun K hK=> ?_))
      go_simp;refine hK _ _ ⟨.inl rfl,?_⟩;clear hK K;refine wpAnyM_done (by kernel_rfl) (NoPanic.normal ?_) _;have hF9:Hid (Box ((U2.setCell ⟨F,0,none⟩ (.int .i64 (Ck.less (c1,c2) (q,ER)).1)).setCell ⟨F,1,none⟩ (.int .i64 (Ck.less (c1,c2) (q,ER)).2)) F #[.int .i64 (Ck.less (c1,c2) (q,ER)).1,.int .i64 (Ck.less (c1,c2) (q,ER)).2] 149):=(hbx.set (j:=0)).set (j:=1);have hb9:Hid (Below F w1 ((U2.setCell ⟨F,0,none⟩ (.int .i64 (Ck.less (c1,c2) (q,ER)).1)).setCell ⟨F,1,none⟩ (.int .i64 (Ck.less (c1,c2) (q,ER)).2))):=bsetF (bsetF (hbr.trans (hU2.mono hbs)) (Nat.le_refl _)) (Nat.le_refl _);clear hbx cF fF hSU hSU1 hUb hU1 hU2 hu1 hu2 hS hFb;go_wp2;go_roundw
      case rel=>exact ⟨i+1,_,_,by go_num,by omega,hb9.out,hF9,HSTEP.out.symm⟩
      case measure=>simp [intOf];omega
     ·obtain rfl:mr=i:=by omega
      have hS2:=HS2.out;rw [List.take_of_length_le (by rw [ruleFs_len, ←HNR.out];exact Nat.le_refl _)] at hS2;have HQ:=kj hS2;clear hS2 HS2;have HF:=HFB;clear HFB;have cT:=(HTL.out _ hbr).cell
      go_wp2_with (first|fail)
      go_loopw [69] (fun i wr=>∃ (i9:Nat) (f1 f2:Int),i=.int .i64 i9∧i9≤ml∧Below F w1 wr∧Hid (Box wr F #[.int .i64 f1,.int .i64 f2] 149)∧Hid ((f1,f2)=run (c1,c2) ((linkFs (zs.map ZoneV.name) ls xl).take i9))) (fun i _=>ml-(intOf i).toNat)
      case atStart=>exact ⟨0,c1,c2,rfl,Nat.zero_le _,hbr,HF,rfl⟩
      case round=>
       clear hbr HF hbw cT;obtain ⟨i,f1,f2,rfl,hi,hbr,HFB,HS2⟩:=hrel;have hbw:=HBL.out _ hbr
       by_cases hlt2:i<ml
       ·obtain ⟨u,hu⟩:∃ u,ls[i]? =some u:=⟨_,List.getElem?_eq_getElem (by rw [← HNL.out];exact hlt2)⟩;obtain ⟨q,hq⟩:∃ q,xl[i]? =some q:=⟨_,List.getElem?_eq_getElem (by rw [← HML.out];exact hlt2)⟩;obtain ⟨b3,o3,rfl,hg3,d3⟩:=HPY.out i q hq;obtain ⟨ER,hER⟩:∃ r,r=Ck.linkF (zs.map ZoneV.name) ls i u:=⟨_,rfl⟩;have cer:=fun X (hX:Below w.heap.size w X)=>CLINK.out X hX hu;rw [← hER] at cer;have CER:=kj cer;have hstep:=run_take (linkFs_at (zs:=zs.map ZoneV.name) (ns:=xl) hu) (c1,c2);rw [← hER,int_at hq, ←HS2.out] at hstep;have HSTEP:=kj hstep;have hFb:=HFB.out;have hFl:=hFb.lt;have hbs:F≤wr.heap.size:=by rw [HF1.out];exact hbr.size
        have hS:∀ U,Below wr.heap.size wr U→U.cell? ⟨F,0,none⟩=some (.int .i64 f1)∧U.cell? ⟨F,1,none⟩=some (.int .i64 f2)∧U.cell? ⟨w.heap.size+1,2,none⟩=some (.slice (some ⟨b3,o3,none⟩) ml cy)∧U.cell? ⟨b3,o3+i,none⟩=some (.int .i64 q)∧U.cell? ⟨w.heap.size,0,none⟩=some (.slice pr mr cr)∧U.cell? ⟨w.heap.size,1,none⟩=some (.slice pz mz cz)∧U.cell? ⟨w.heap.size,2,none⟩=some (.slice pl ml cl):=fun U hU=>by
         have hU1:Below F w1 U:=hbr.trans (hU.mono hbs);have hUw:=HBL.out _ hU1;have bx:Box U F _ _:=(hU.block _ hFl).trans hFb;exact ⟨bx.cell 0,bx.cell 1,(HWL.out _ hU1).cell 2,(hUw.cell (p:=⟨b3,o3+i,none⟩) hg3).trans d3,(HTL.out _ hU1).cell 0,(HTL.out _ hU1).cell 1,(HTL.out _ hU1).cell 2⟩
        have q2:(i:Int)<(ml:Int):=by omega
        clear d3 hq hER cer hstep
        go_wp2_with (first|fail)
        refine wp_region_noPanic ?_;refine wp_region_heldM (fun U=>U.cell? ⟨F,0,none⟩=some (.int .i64 f1)∧U.cell? ⟨F,1,none⟩=some (.int .i64 f2)∧U.cell? ⟨w.heap.size+1,2,none⟩=some (.slice (some ⟨b3,o3,none⟩) ml cy)∧U.cell? ⟨b3,o3+i,none⟩=some (.int .i64 q)∧U.cell? ⟨w.heap.size,0,none⟩=some (.slice pr mr cr)∧U.cell? ⟨w.heap.size,1,none⟩=some (.slice pz mz cz)∧U.cell? ⟨w.heap.size,2,none⟩=some (.slice pl ml cl)) 11 (by kernel_rfl) (hS _ (Below.refl _ _).drew) ?_;intro U hU hSU;have hUb:Below wr.heap.size wr U:=by rw [hU];exact (Below.refl _ _).drew
        clear hU
        (refine wpAnyM_take (i:=0) (v:= ?v690) rfl (by kernel_rfl) (by kernel_rfl) (by kernel_rfl) [] (by kernel_rfl) (by kernel_rfl) (fun _ _ _ h=>h) (Or.inl ⟨by rfl,?y690⟩) hSU ?r690;(case y690=>(intro w hSw;(try dsimp only at hSw);go_simp;(try with_reducible rfl)));(try simp only [Act.put,List.setIfInBounds_toArray]))
        (refine wpAnyM_take (i:=1) (v:= ?v691) rfl (by kernel_rfl) (by kernel_rfl) (by kernel_rfl) [] (by kernel_rfl) (by kernel_rfl) (fun _ _ _ h=>h) (Or.inl ⟨by rfl,?y691⟩) hSU ?r691;(case y691=>(intro w hSw;(try dsimp only at hSw);go_simp;(try with_reducible rfl)));(try simp only [Act.put]))
        (refine wpAnyM_take (i:=2) (v:= ?v692) rfl (by kernel_rfl) (by kernel_rfl) (by kernel_rfl) [] (by kernel_rfl) (by kernel_rfl) (fun _ _ _ h=>h) (Or.inl ⟨by rfl,?y692⟩) hSU ?r692;(case y692=>(intro w hSw;(try dsimp only at hSw);go_simp;(try with_reducible rfl)));(try simp only [Act.put]))
        (refine wpAnyM_take (i:=3) (v:= ?v693) rfl (by kernel_rfl) (by kernel_rfl) (by kernel_rfl) [] (by kernel_rfl) (by kernel_rfl) (fun _ _ _ h=>h) (Or.inl ⟨by rfl,?y693⟩) hSU ?r693;(case y693=>(intro w hSw;(try dsimp only at hSw);go_simp;(try with_reducible rfl)));(try simp only [Act.put]))
        (refine wpAnyM_take (i:=4) (v:= ?v694) rfl (by kernel_rfl) (by kernel_rfl) (by kernel_rfl) [] (by kernel_rfl) (by kernel_rfl) (fun _ _ _ h=>h) (Or.inl ⟨by rfl,?y694⟩) hSU ?r694;(case y694=>(intro w hSw;(try dsimp only at hSw);go_simp;(try with_reducible rfl)));(try simp only [Act.put]))
        (refine wpAnyM_take (i:=5) (v:= ?v695) rfl (by kernel_rfl) (by kernel_rfl) (by kernel_rfl) [] (by kernel_rfl) (by kernel_rfl) (fun _ _ _ h=>h) (Or.inl ⟨by rfl,?y695⟩) hSU ?r695;(case y695=>(intro w hSw;(try dsimp only at hSw);go_simp;(try with_reducible rfl)));(try simp only [Act.put]))
        (refine wpAnyM_take (i:=6) (v:= ?v696) rfl (by kernel_rfl) (by kernel_rfl) (by kernel_rfl) [] (by kernel_rfl) (by kernel_rfl) (fun _ _ _ h=>h) (Or.inl ⟨by rfl,?y696⟩) hSU ?r696;(case y696=>(intro w hSw;(try dsimp only at hSw);go_simp;(try with_reducible rfl)));(try simp only [Act.put]))
        (refine wpAnyM_take (i:=7) (v:= ?v697) rfl (by kernel_rfl) (by kernel_rfl) (by kernel_rfl) [] (by kernel_rfl) (by kernel_rfl) (fun _ _ _ h=>h) (Or.inl ⟨by rfl,?y697⟩) hSU ?r697;(case y697=>(intro w hSw;(try dsimp only at hSw);go_simp;(try with_reducible rfl)));(try simp only [Act.put]))
        (refine wpAnyM_all (rs:=[8]) (by kernel_rfl) (by simp) (List.forall_mem_cons.2 ⟨?_,(fun _ h=>by cases h)⟩);refine wpOp_step rfl (fun K hK=> ?_))
        go_simp
        go_at_call 211
        refine (CER.out U (HBL.out _ (hbr.trans (hUb.mono hbs)))).mono ?_;rintro e4 U1 ⟨rfl,hu1⟩;have hU1:=hUb.trans (hu1.mono hUb.size);refine hK _ _ ⟨.inr (hS _ hU1),?_⟩;clear hK K
        (try simp only [Act.put,List.setIfInBounds_toArray,List.set_cons_zero,List.set_cons_succ])
        have hSU1:=hS _ hU1
        (refine wpAnyM_take (i:=9) (v:= ?v699) rfl (by kernel_rfl) (by kernel_rfl) (by kernel_rfl) [] (by kernel_rfl) (by kernel_rfl) (fun _ _ _ h=>h) (Or.inl ⟨by rfl,?y699⟩) hSU1 ?r699;(case y699=>(intro w hSw;(try dsimp only at hSw);go_simp;(try with_reducible rfl)));(try simp only [Act.put,List.setIfInBounds_toArray]))
        (refine wpAnyM_all (rs:=[10]) (by kernel_rfl) (by simp) (List.forall_mem_cons.2 ⟨?_,(fun _ h=>by cases h)⟩);refine wpOp_step rfl (fun K hK=> ?_))
        go_simp
        go_at_call 208
        refine (RCk.less (f1,f2) (q,ER) U1).mono ?_;rintro e5 U2 ⟨rfl,hu2⟩;have hU2:=hU1.trans (hu2.mono hU1.size);have hbx:=(show Box U2 F _ _ from (hU2.block _ hFl).trans hFb);have cF:=hbx.cell;have fF:=hbx.free;refine hK _ _ ⟨.inr (hS _ hU2),?_⟩;clear hK K
        (try simp only [Act.put,List.setIfInBounds_toArray,List.set_cons_zero,List.set_cons_succ])
        (refine wpAnyM_all (rs:=[11]) (by kernel_rfl) (by simp) (List.forall_mem_cons.2 ⟨?_,(fun _ h=>by cases h)⟩);refine wpOp_step rfl (fun K hK=> ?_))
        go_simp;refine hK _ _ ⟨.inl rfl,?_⟩;clear hK K;refine wpAnyM_done (by kernel_rfl) (NoPanic.normal ?_) _;have hF9:Hid (Box ((U2.setCell ⟨F,0,none⟩ (.int .i64 (Ck.less (f1,f2) (q,ER)).1)).setCell ⟨F,1,none⟩ (.int .i64 (Ck.less (f1,f2) (q,ER)).2)) F #[.int .i64 (Ck.less (f1,f2) (q,ER)).1,.int .i64 (Ck.less (f1,f2) (q,ER)).2] 149):=(hbx.set (j:=0)).set (j:=1);have hb9:Hid (Below F w1 ((U2.setCell ⟨F,0,none⟩ (.int .i64 (Ck.less (f1,f2) (q,ER)).1)).setCell ⟨F,1,none⟩ (.int .i64 (Ck.less (f1,f2) (q,ER)).2))):=bsetF (bsetF (hbr.trans (hU2.mono hbs)) (Nat.le_refl _)) (Nat.le_refl _);clear hbx cF fF hSU hSU1 hUb hU1 hU2 hu1 hu2 hS hFb;go_wp2;go_roundw
        case rel=>exact ⟨i+1,_,_,by go_num,by omega,hb9.out,hF9,HSTEP.out.symm⟩
        case measure=>simp [intOf];omega
       ·obtain rfl:ml=i:=by omega
        have hS2:=HS2.out;rw [List.take_of_length_le (by rw [linkFs_len, ←HNL.out];exact Nat.le_refl _)] at hS2;have HE9:Hid (R=(f1,f2)):=by
         rw [HE.out];unfold all;rw [run_app,run_app, ←HH.out, ←HQ.out,hS2];exact rfl
        have cF:=HFB.out.cell;have hRr:=HRL.out _ hbr;have cR:=hRr.cell;have fR:=hRr.free;clear hS2 HS2;go_wp2;rw [HE9.out];refine bodyPost_ret (v:=.agg #[.int .i64 f1,.int .i64 f2]) ?_ rfl ⟨rfl,?_⟩
        ·have c1:=(hRr.set (j:=0) (v:=.int .i64 f1)).set (j:=1) (v:=.int .i64 f2);have c2:=c1.cell;simp only [results,results150];go_simp
        ·exact bcq
end RCk
end Go.Proofs.YtgmfojgnjdpofaaGreatDoor
