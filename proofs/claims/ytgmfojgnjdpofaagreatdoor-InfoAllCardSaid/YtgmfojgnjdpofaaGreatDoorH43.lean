import Derived.Test.YtgmfojgnjdpofaaGreatDoorH38
import Derived.Test.YtgmfojgnjdpofaaGreatDoorH42
import Derived.Test.YtgmfojgnjdpofaaGreatDoorH30
import Derived.Test.YtgmfojgnjdpofaaGreatDoorH37
import Derived.Test.YtgmfojgnjdpofaaGreatDoorH34
import Derived.Test.YtgmfojgnjdpofaaGreatDoorH33
import Derived.Test.YtgmfojgnjdpofaaGreatDoorH21
import Derived.Test.YtgmfojgnjdpofaaGreatDoorH13
import Derived.Test.YtgmfojgnjdpofaaGreatDoorH11
namespace Go.Proofs.YtgmfojgnjdpofaaGreatDoor
open Go.Proofs.Tryz
section
open Go.RowKit NB
namespace RdR
open Rd RWr
theorem TableC {t:TabV} {w0:World} (ht:HoldsT w0 t) (hf:Fine1 t) (W:World):Calls prog 149 #[.string (ofL (srcB (tabL t)))] W fun e w'=>∃ (qr ql qz qe qk qn:Option Addr) (cr cl cz ce ck cn nr nl nz ne nk nn:Nat) (zs1:List ZoneV) (es:List RowN),
 e=.returned (.tuple #[.agg #[.slice qr nr cr,.slice qz nz cz,.slice qk nk ck],.agg #[.slice ql nl cl,.slice qe ne ce,.slice qn nn cn],.agg #[.int .i64 0,.int .i64 0]])∧
 HoldsC w' ⟨.slice qr nr cr,.slice qz nz cz,.slice qk nk ck,t.rs,zs1,t.ls⟩∧HoldsW w' ⟨.slice ql nl cl,.slice qe ne ce,.slice qn nn cn,Ck.up 0 t.rs.length,es,Ck.up (t.rs.length+Ck.sumE zs1) t.ls.length⟩∧Sm zs1 t.zs∧es.map RowN.ns=Ck.upE t.rs.length zs1∧Below W.heap.size W w':=by
 refine (Table hf W).mono ?_;rintro e w' ⟨B,p,rv,lv,zv,ev,kv,nv,rfl,hG,hb⟩;have hG2:=hG;obtain ⟨F,zs1,es,hP,_⟩:=hG2;obtain ⟨qr,cr,rfl⟩:=own_f hP.r;obtain ⟨ql,cl,rfl⟩:=own_f hP.l;obtain ⟨qz,cz,rfl⟩:=own_f hP.z;obtain ⟨qe,ce,rfl⟩:=own_f hP.e;obtain ⟨qk,ck,rfl⟩:=own_f hP.k;obtain ⟨qn,cn,rfl⟩:=own_f hP.n;obtain ⟨zs2,es2,h1,h2,h3,h4⟩:=hG.holds ht hf;exact ⟨qr,ql,qz,qe,qk,qn,cr,cl,cz,ce,ck,cn,_,_,_,_,_,_,zs2,es2,rfl,h1,h2,h3,h4,hb⟩
set_option maxRecDepth 100000 in
set_option maxHeartbeats 6400000 in
theorem Source {t:TabV} {w0:World} (ht:HoldsT w0 t) (hf:Fine1 t) (W:World):Calls prog 93 #[.string (ofL (srcB (tabL t)))] W fun e w'=>∃ (q1 q2 q3:Option Addr) (n1 n2 n3 c1 c2 c3:Nat),e=.returned (.tuple #[.agg #[.slice q1 n1 c1,.slice q2 n2 c2,.slice q3 n3 c3],.agg #[.int .i64 (Ck.wrong t).1,.int .i64 (Ck.wrong t).2]])∧Below W.heap.size W w':=by
 have cT:=fun X=>TableC ht hf X;have cC:=fun (X:World) (zs1:List ZoneV) (es:List RowN) (rv zv kv lv ev nv:Value) (h:HoldsC X ⟨rv,zv,kv,t.rs,zs1,t.ls⟩) (hx:HoldsW X ⟨lv,ev,nv,Ck.up 0 t.rs.length,es,Ck.up (t.rs.length+Ck.sumE zs1) t.ls.length⟩) (hs:Sm zs1 t.zs) (hw:es.map RowN.ns=Ck.upE t.rs.length zs1)=>by
  have hin:∀ x∈zs1,x.es.length≤12:=fun x hx=>by
   obtain ⟨z,hz,_,e2⟩:=hs.of hx;rw [← e2];exact hf.l4 z hz
  have hc:=RCk.Check h hx hf.l1 (by show zs1.length≤100;have:=hs.len;have:=hf.l2;omega) (fun z hz=>by have:=hin z hz;omega) (by show t.ls.length≤100;have:=hf.l3;omega) (by show (Ck.up 0 t.rs.length).length≤100;rw [Ck.up_len];have:=hf.l1;omega) (by show (Ck.up _ t.ls.length).length≤100;rw [Ck.up_len];have:=hf.l3;omega) (rows_few hw hin);dsimp only at hc;rw [hw,Ck.wrong_sm hs] at hc;exact hc
 unfold RCk.fcs at cC;generalize Ck.wrong t=R at *;generalize ofL (srcB (tabL t))=S at *;obtain ⟨f1,f2⟩:=R;have CT:=kj cT;have CC:=kj cC;clear cT cC;go_enter func93,ntmps93
 go_upto_region 1 with fail
 obtain ⟨w1,hw1⟩:∃ V,V=(W.alloc (.cells #[nilV,nilV,nilV] 26)).alloc (.cells #[.int .i64 0,.int .i64 0] 149):=⟨_,rfl⟩;have a0:Box w1 W.heap.size #[nilV,nilV,nilV] 26:=by rw [hw1];exact (Box.new W _ _).old
 have a1:Box w1 (W.heap.size+1) #[.int .i64 0,.int .i64 0] 149:=by
  have:=(Box.new (W.alloc (.cells #[nilV,nilV,nilV] 26)) #[.int .i64 0,.int .i64 0] 149);rw [World.size_alloc] at this;rw [hw1];exact this
 have hbw1:Below W.heap.size W w1:=by rw [hw1];exact bcq
 rw [← hw1];clear hw1
 go_upto_region 2 with (go_at_call 149;refine (CT.out _).mono ?_;rintro e w2 ⟨qr,ql,qz,qe,qk,qn,cr,cl,cz,ce,ck,cn,nr,nl,nz,ne,nk,nn,zs1,es,rfl,hC,hW,hs,hw,hb2⟩;have HX:=kj (And.intro hC (And.intro hW (And.intro hs hw)));clear hC hW hs hw)
 have hs2:=hb2.size;obtain ⟨G,hG⟩:∃ G,G=w2.heap.size:=⟨_,rfl⟩;have gW:W.heap.size+1<G:=by rw [hG];have:=a1.lt;omega
 obtain ⟨w3,hw3⟩:∃ V,V=((w2.alloc (.cells #[.slice qr nr cr,.slice qz nz cz,.slice qk nk ck] 26)).alloc (.cells #[.slice ql nl cl,.slice qe ne ce,.slice qn nn cn] 202)).alloc (.cells #[.int .i64 0,.int .i64 0] 149):=⟨_,rfl⟩;have b4:Box w3 G #[.slice qr nr cr,.slice qz nz cz,.slice qk nk ck] 26:=by rw [hw3,hG];exact ((Box.new w2 _ _).old).old
 have b5:Box w3 (G+1) #[.slice ql nl cl,.slice qe ne ce,.slice qn nn cn] 202:=by
  have:=(Box.new (w2.alloc (.cells #[.slice qr nr cr,.slice qz nz cz,.slice qk nk ck] 26)) #[.slice ql nl cl,.slice qe ne ce,.slice qn nn cn] 202);rw [World.size_alloc, ←hG] at this;rw [hw3];exact this.old
 have b6:Box w3 (G+1+1) #[.int .i64 0,.int .i64 0] 149:=by
  have:=(Box.new ((w2.alloc (.cells #[.slice qr nr cr,.slice qz nz cz,.slice qk nk ck] 26)).alloc (.cells #[.slice ql nl cl,.slice qe ne ce,.slice qn nn cn] 202)) #[.int .i64 0,.int .i64 0] 149);rw [World.size_alloc,World.size_alloc, ←hG] at this;rw [hw3];exact this
 have hb3:Below w2.heap.size w2 w3:=by rw [hw3];exact bcq
 have hbw3:Below W.heap.size W w3:=(hbw1.trans (hb2.mono hbw1.size)).trans (hb3.mono (by have:=hbw1.size;omega));have a0:=(a0.later hb2).later hb3;have a1:=(a1.later hb2).later hb3;obtain ⟨h1,h2,h3,h4⟩:=HX.out;have cc:=CC.out w3 zs1 es _ _ _ _ _ _ (h1.later hb3) (h2.later hb3) h3 h4;have C3:=kj cc;have l1:=hbw1.size;rw [← hw3, ←hG];clear hw3 hb2 hb3 h1 h2 h3 h4 cc HX hs2 hG CC CT;have k4:=b4.cell;have k5:=b5.cell;have k6:=b6.cell;have m4:=b4.lt;have m5:=b5.lt;have m6:=b6.lt;have v6:=b6.free
 go_upto_region 4 with (go_at_call 150;refine C3.out.mono ?_;rintro e w4 ⟨rfl,hb4⟩;have b6':=b6.later hb4;have k6':=b6'.cell;have v6':=b6'.free)
 obtain ⟨w5,hw5⟩:∃ V,V=(w4.setCell ⟨G+1+1,0,none⟩ (.int .i64 f1)).setCell ⟨G+1+1,1,none⟩ (.int .i64 f2):=⟨_,rfl⟩;have d6:Box w5 (G+1+1) #[.int .i64 f1,.int .i64 f2] 149:=by rw [hw5];exact b6'.set.set
 have d4:Box w5 G #[.slice qr nr cr,.slice qz nz cz,.slice qk nk ck] 26:=by rw [hw5];exact ((b4.later hb4).other (by omega)).other (by omega)
 have d0:Box w5 W.heap.size #[nilV,nilV,nilV] 26:=by rw [hw5];exact ((a0.later hb4).other (by omega)).other (by omega)
 have d1:Box w5 (W.heap.size+1) #[.int .i64 0,.int .i64 0] 149:=by rw [hw5];exact ((a1.later hb4).other (by omega)).other (by omega)
 have hbw5:Below W.heap.size W w5:=by rw [hw5];exact bset (bset (hbw3.trans (hb4.mono hbw3.size)) (by omega)) (by omega)
 rw [← hw5];clear hw5 hb4 b6' k6' v6' k4 k5 k6 m4 m5 m6 v6 a0 a1 b4 b5 b6 hbw3 C3;have k0:=d0.cell;have k1:=d1.cell;have k4:=d4.cell;have k6:=d6.cell;have v0:=d0.free;have v1:=d1.free;have m0:=d0.lt;have m1:=d1.lt;have m4:=d4.lt;have m6:=d6.lt;have n1:G≠W.heap.size:=by omega
 have n2:G≠W.heap.size+1:=by omega
 have n3:G+1+1≠W.heap.size:=by omega
 have n4:G+1+1≠W.heap.size+1:=by omega
 have HBW:=kj hbw5;clear d0 d1 d4 d6 hbw5 hbw1
 by_cases hf2:f2=0
 ·subst hf2
  go_upto_region 6 with fail
  go_region
  have hbe:=bd (bset (bset (bset (bset (bset HBW.out (n:=W.heap.size) (o:=0) (v:=.slice qr nr cr) (by omega)) (n:=W.heap.size) (o:=1) (v:=.slice qz nz cz) (by omega)) (n:=W.heap.size) (o:=2) (v:=.slice qk nk ck) (by omega)) (n:=W.heap.size+1) (o:=0) (v:=.int .i64 f1) (by omega)) (n:=W.heap.size+1) (o:=1) (v:=.int .i64 0) (by omega));have HBE:=kj hbe;clear hbe k4 k6;go_wp2;refine bodyPost_ret (v:=.tuple #[.agg #[.slice qr nr cr,.slice qz nz cz,.slice qk nk ck],.agg #[.int .i64 f1,.int .i64 0]]) ?_ rfl ⟨qr,qz,qk,nr,nz,nk,cr,cz,ck,rfl,HBE.out⟩;simp only [results,results93];go_simp
 ·have q2:(f2==0)=false:=by rw [beq_eq_false_iff_ne];exact hf2
  have q3:(f2 != 0)=true:=by rw [bne,q2];rfl
  go_upto_region 5 with fail
  go_region
  have hbe:=bd (bset (bset (bset (bset (bset HBW.out (n:=W.heap.size) (o:=0) (v:=nilV) (by omega)) (n:=W.heap.size) (o:=1) (v:=nilV) (by omega)) (n:=W.heap.size) (o:=2) (v:=nilV) (by omega)) (n:=W.heap.size+1) (o:=0) (v:=.int .i64 f1) (by omega)) (n:=W.heap.size+1) (o:=1) (v:=.int .i64 f2) (by omega));have HBE:=kj hbe;clear hbe k4 k6;go_wp2;refine bodyPost_ret (v:=.tuple #[.agg #[nilV,nilV,nilV],.agg #[.int .i64 f1,.int .i64 f2]]) ?_ rfl ⟨none,none,none,0,0,0,0,0,0,rfl,HBE.out⟩;simp only [results,results93];go_simp
end RdR
end
section
open Go.RowKit NB
namespace RdR
open Rd RWr
set_option maxRecDepth 100000 in
theorem TextErr {w:World} {t:TabV} (ht:HoldsT w t) (hr:rightT t=false):
 Calls prog 92 #[.agg #[t.rv,t.zv,t.lv]] w fun e w'=>e=.returned (.tuple #[.string ⟨#[]⟩,.int .i64 4])∧Below w.heap.size w w':=by
 have cr:=fun W (h:HoldsT W t)=>Right h;rw [hr] at cr;have HTT:=kj ht;obtain ⟨rv,zv,lv,rs,zs,ls⟩:=t;obtain ⟨p,cap,e1⟩:=ht.r.form;obtain ⟨pz,capz,e3⟩:=ht.z.form;obtain ⟨pl,capl,e5⟩:=ht.l.form;dsimp only at e1 e3 e5 cr HTT ⊢;subst e1 e3 e5;have CR:=kj cr;generalize rs.length=n at *;generalize zs.length=nz at *;generalize ls.length=nl at *;clear cr hr ht;go_enter func92,ntmps92
 go_wp2_with (go_at_call 144;refine (CR.out _ (HTT.out.later bcq)).mono ?_;rintro e w1 ⟨rfl,hb1⟩)
 refine bodyPost_ret (v:=.tuple #[.string ⟨#[]⟩,.int .i64 4]) ?_ rfl ⟨rfl,bcq⟩;simp only [results,results92];go_simp
noncomputable def told (t:TabV):Int:=if rightT t=true then (Ck.wrong t).2 else 4
set_option maxRecDepth 100000 in
set_option maxHeartbeats 6400000 in
theorem Told {w:World} {t:TabV} (ht:HoldsT w t) (hl:Eqs.lightT t=true):
 Calls prog 49 #[.agg #[t.rv,t.zv,t.lv]] w fun e w'=>e=.returned (.int .i64 (told t))∧Below w.heap.size w w':=by
 obtain ⟨R,hR⟩:∃ R,R=told t:=⟨_,rfl⟩;rw [← hR];unfold told at hR
 by_cases hr:rightT t=true
 ·have hf:=fine1 ht hl hr;rw [if_pos hr] at hR;have ct:=fun W (h:HoldsT W t)=>Text h hr hf.l1 hf.l2 hf.l3 hf.l4;have cs:=fun W=>Source ht hf W;have HTT:=kj ht;have hls:=lines_src (lines_right hf);have hsz:(ofL (srcB (tabL t))).size≤100000:=by
   rw [ofL_size];have:=src_len (lines_right hf);have:=lines_few hf;omega
  clear hls;have b1:=hf.l1;have b2:=hf.l2;have b3:=hf.l3;have b4:=hf.l4;clear hf hr;rw [← hR] at cs;generalize ofL (srcB (tabL t))=S at *;generalize (Ck.wrong t).1=LN at *;obtain ⟨rv,zv,lv,rs,zs,ls⟩:=t;obtain ⟨p,cap,e1⟩:=ht.r.form;obtain ⟨pz,capz,e3,hpz⟩:=ht.z.pk;obtain ⟨pl,capl,e5⟩:=ht.l.form;have zf:=ht.zf;dsimp only at e1 e3 e5 hpz zf b1 b2 b3 b4 ct cs HTT ⊢;subst e1 e3 e5;obtain ⟨n,hn⟩:∃ n,n=rs.length:=⟨_,rfl⟩;obtain ⟨nz,hnz⟩:∃ nz,nz=zs.length:=⟨_,rfl⟩;obtain ⟨nl,hnl⟩:∃ nl,nl=ls.length:=⟨_,rfl⟩;rw [← hn] at b1 ct HTT ⊢;rw [← hnz] at b2 ct HTT ⊢;rw [← hnl] at b3 ct HTT ⊢;have CT:=kj ct;have CS:=kj cs;have HPZ:=kj hpz;have ZF:=kj zf;have HNZ:=kj hnz;have B4:=kj b4;clear ct cs hpz zf hn hnz hnl b4 ht hR hl;go_enter func49,ntmps49
  go_upto_region 1 with fail
  obtain ⟨w1,hw1⟩:∃ V,V=w.alloc (.cells #[.slice p n cap,.slice pz nz capz,.slice pl nl capl] 26):=⟨_,rfl⟩;have b1:Box w1 w.heap.size #[.slice p n cap,.slice pz nz capz,.slice pl nl capl] 26:=by rw [hw1];exact Box.new _ _ _
  have hB1:Below w.heap.size w w1:=by rw [hw1];exact bcq
  have m1:=b1.lt;rw [← hw1];clear hw1;have c1:=b1.cell
  go_upto_region 2 with (go_at_call 92;refine (CT.out _ (HTT.out.later hB1)).mono ?_;rintro e w2 ⟨rfl,hb1⟩)
  have b2:=b1.later hb1;have hB2:Below w.heap.size w w2:=hB1.trans (hb1.mono hB1.size);have m2:=b2.lt;have c2:=b2.cell;clear hb1 b1 m1 c1
  go_upto_region 5 with fail
  rw [show decide ((4096:Int)<(n:Int))=false by rw [decide_eq_false_iff_not];omega,show decide ((1024:Int)<(nz:Int))=false by rw [decide_eq_false_iff_not];omega,show decide ((1024:Int)<(nl:Int))=false by rw [decide_eq_false_iff_not];omega]
  go_upto_region 6 with fail
  go_loopw [37,5] (fun i s wr=>∃ k:Nat,i=.int .i64 k∧s=.bool false∧k≤nz∧Below w2.heap.size w2 wr) (fun i _ _=>nz-(intOf i).toNat)
  case atStart=>exact ⟨0,rfl,rfl,Nat.zero_le _,Below.refl _ _⟩
  case round=>
   obtain ⟨j,rfl,rfl,hj,hbr2⟩:=hrel;obtain ⟨w4,rfl⟩:∃ w4:World,w4=wr:=⟨_,rfl⟩;have hbw4:Below w.heap.size w w4:=hB2.trans (hbr2.mono hB2.size);have hs4:=hbr2.size
   by_cases hlt4:j<nz
   ·obtain ⟨x,hx⟩:∃ x,zs[j]? =some x:=⟨_,List.getElem?_eq_getElem (by rw [← HNZ.out];exact hlt4)⟩;obtain ⟨g1,o1,rfl,hg1,d1⟩:=HPZ.out j x hx;have x0:=(hbw4.cell (p:=⟨g1,o1+j*2+0,none⟩) hg1).trans (d1 0 _ rfl);have x1:=(hbw4.cell (p:=⟨g1,o1+j*2+1,none⟩) hg1).trans (d1 1 _ rfl);rw [Nat.add_zero] at x0;have zfx:=ZF.out x (List.mem_of_getElem? hx);have hle:=B4.out x (List.mem_of_getElem? hx);obtain ⟨nm,xv,es⟩:=x;obtain ⟨pp,cc,hv⟩:=zfx.e.form;dsimp only at hv hle x0 x1;subst hv;obtain ⟨m,hm⟩:∃ m,m=es.length:=⟨_,rfl⟩;rw [← hm] at x1 hle;clear hm zfx hx d1;have q1:(j:Int)<(nz:Int):=by omega
    go_upto_region 9 with fail
    rw [show decide ((256:Int)<(m:Int))=false by rw [decide_eq_false_iff_not];omega];go_wp2;go_roundw
    case rel=>exact ⟨j+1,by go_num,rfl,by omega,bcq⟩
    case measure=>simp [intOf];omega
   ·obtain rfl:j=nz:=by omega
    have ps:¬((1048576:Int)<(S.size:Int)):=by omega
    go_wp2_with (go_at_call 93;(with_reducible refine (CS.out _).mono ?_);rintro e w5 ⟨s1,s2,s3,l1,l2,l3,r1,r2,r3,rfl,hb5⟩)
    go_ret;exact ⟨rfl,bcq⟩
 ·rw [if_neg hr] at hR;subst hR;have ct:=fun W (h:HoldsT W t)=>TextErr h (by simpa using hr);have HTT:=kj ht;obtain ⟨rv,zv,lv,rs,zs,ls⟩:=t;obtain ⟨p,cap,e1⟩:=ht.r.form;obtain ⟨pz,capz,e3⟩:=ht.z.form;obtain ⟨pl,capl,e5⟩:=ht.l.form;dsimp only at e1 e3 e5 ct HTT ⊢;subst e1 e3 e5;have CT:=kj ct;generalize rs.length=n at *;generalize zs.length=nz at *;generalize ls.length=nl at *;clear ct hr ht hl;go_enter func49,ntmps49
  go_wp2_with (go_at_call 92;(with_reducible refine (CT.out _ (HTT.out.later bcq)).mono ?_);rintro e w2 ⟨rfl,hb1⟩)
  go_ret;exact ⟨rfl,bcq⟩
end RdR
end
section
open Go.RowKit NB
namespace RdR
open Rd RWr
theorem fits_told {t:TabV} (hl:Eqs.lightT t=true):Ck.fitsT t=decide (told t=0):=by
 unfold Ck.fitsT told;rw [hl,Bool.true_and];cases hr:rightT t
 ·rw [if_neg (by decide),Bool.false_and];rfl
 ·rw [if_pos rfl];rfl
theorem fits_not {t:TabV} (hl:Eqs.lightT t=false):Ck.fitsT t=false:=by
 unfold Ck.fitsT;rw [hl];rfl
set_option maxRecDepth 100000 in
set_option maxHeartbeats 3200000 in
theorem Fits {w:World} {t:TabV} (ht:HoldsT w t):Calls prog 15 #[.agg #[t.rv,t.zv,t.lv]] w fun e w'=>e=.returned (.bool (Ck.fitsT t))∧Below w.heap.size w w':=by
 obtain ⟨B,hB⟩:∃ B,B=Ck.fitsT t:=⟨_,rfl⟩;rw [← hB];have cl:=fun W (h:HoldsT W t)=>Eqs.Light h;have ct:=fun W (h:HoldsT W t) (hl:Eqs.lightT t=true)=>Told h hl;have HTT:=kj ht;obtain ⟨p,cap,e1⟩:=ht.r.form;obtain ⟨pz,capz,e3⟩:=ht.z.form;obtain ⟨pl,capl,e5⟩:=ht.l.form;obtain ⟨R,hR⟩:∃ R,R=told t:=⟨_,rfl⟩;rw [← hR] at ct;cases hl:Eqs.lightT t
 ·have hf:=fits_not hl;rw [← hB] at hf;subst hf;rw [hl] at cl;obtain ⟨rv,zv,lv,rs,zs,ls⟩:=t;dsimp only at e1 e3 e5 cl HTT ⊢;subst e1 e3 e5;have CL:=kj cl;generalize rs.length=n at *;generalize zs.length=nz at *;generalize ls.length=nl at *;clear cl ct ht hl hB hR;go_enter func15,ntmps15
  go_wp2_with (go_at_call 48;(with_reducible refine (CL.out _ ?_).mono ?_);(· exact HTT.out.later bcq);rintro e w1 ⟨rfl,hb1⟩;obtain ⟨hc1,hf1⟩:=bcell hb1)
  go_ret;exact ⟨rfl,bcq⟩
 ·have hf:=fits_told hl;rw [← hB, ←hR] at hf;subst hf;have ct:=fun W h=>ct W h hl;rw [hl] at cl;obtain ⟨rv,zv,lv,rs,zs,ls⟩:=t;dsimp only at e1 e3 e5 cl ct HTT ⊢;subst e1 e3 e5;have CL:=kj cl;have CT:=kj ct;generalize rs.length=n at *;generalize zs.length=nz at *;generalize ls.length=nl at *;clear cl ct ht hl hB hR
  by_cases h0:R=0
  ·subst h0;go_enter func15,ntmps15
   go_wp2_with (first
    |(go_at_call 48;(with_reducible refine (CL.out _ ?_).mono ?_);(· exact HTT.out.later bcq);rintro e w1 ⟨rfl,hb1⟩;obtain ⟨hc1_0,hf1_0,hz1_0⟩:=bcs hb1 (w.heap.size))
    |(go_at_call 49;(with_reducible refine (CT.out _ ?_).mono ?_);(· exact HTT.out.later bcq);rintro e w2 ⟨rfl,hb2⟩;obtain ⟨hc2,hf2⟩:=bcell hb2))
   go_ret;exact ⟨rfl,bcq⟩
  ·have q0:(R==0)=false:=by rw [beq_eq_false_iff_ne];exact h0
   rw [decide_eq_false h0];go_enter func15,ntmps15
   go_wp2_with (first
    |(go_at_call 48;(with_reducible refine (CL.out _ ?_).mono ?_);(· exact HTT.out.later bcq);rintro e w1 ⟨rfl,hb1⟩;obtain ⟨hc1_0,hf1_0,hz1_0⟩:=bcs hb1 (w.heap.size))
    |(go_at_call 49;(with_reducible refine (CT.out _ ?_).mono ?_);(· exact HTT.out.later bcq);rintro e w2 ⟨rfl,hb2⟩;obtain ⟨hc2,hf2⟩:=bcell hb2))
   go_ret;exact ⟨rfl,bcq⟩
end RdR
end
section
open Go.RowKit NB
namespace L34
open Pt
theorem fits_ok {t:TabV} (h:Ck.fitsT t=true):Ok t:=by
 obtain ⟨hl,_,_⟩:=Ck.fits_parts h;obtain ⟨h1,h2,_,h4,_⟩:=Ck.light_parts hl;unfold Lgt.light at h1;simp only [Bool.and_eq_true,decide_eq_true_eq,List.all_eq_true] at h1;refine ⟨fits_good h,fun x hx=> ?_,by omega,by omega,fun z hz=> ?_⟩
 ·have:=h1.2 x hx;unfold Lgt.lightR at this;simp only [Bool.and_eq_true,decide_eq_true_eq] at this;omega
 ·have:=h4 z hz;unfold Zn.lightZ at this;simp only [Bool.and_eq_true,decide_eq_true_eq] at this;omega
end L34
end
end Go.Proofs.YtgmfojgnjdpofaaGreatDoor
