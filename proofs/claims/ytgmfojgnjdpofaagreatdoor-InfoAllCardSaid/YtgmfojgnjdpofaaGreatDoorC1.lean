import Derived.Test.YtgmfojgnjdpofaaGreatDoorJ3
import Derived.Test.YtgmfojgnjdpofaaGreatDoorJ1
import Derived.Test.YtgmfojgnjdpofaaGreatDoorD1
namespace Go.Proofs.YtgmfojgnjdpofaaGreatDoor
open Go.Proofs.Tryz
open Go.RowKit NB
namespace L36
open Pt Chg L34 L35 Inf
theorem Box.set5i {X:World} {b:Nat} {a0 a1 a2 a3 a4 b0 b1 b2 b3 b4:Value} {t:TypeId} (h:Box X b #[a0,a1,a2,a3,a4] t):
 Box (((((X.setCell ⟨b,0,none⟩ b0).setCell ⟨b,1,none⟩ b1).setCell ⟨b,2,none⟩ b2).setCell ⟨b,3,none⟩ b3).setCell ⟨b,4,none⟩ b4) b #[b0,b1,b2,b3,b4] t:=
 ((((h.set (j:=0) (v:=b0)).set (j:=1) (v:=b1)).set (j:=2) (v:=b2)).set (j:=3) (v:=b3)).set (j:=4) (v:=b4)
set_option maxRecDepth 100000 in
set_option maxHeartbeats 6400000 in
theorem all0 {w:World} {t:TabV} (ht:HoldsT w t) (tb:Tab w) (hst:Sta w) (zone s:Int) (hs:I64 s) (hno:Ck.fitsT t=false∨(valV t zone s).2≠0):
 Calls prog 9 #[.agg #[t.rv,t.zv,t.lv],.int .i64 zone,.int .i64 s] w fun e w'=>e=.returned (.bool true)∧Below w.heap.size w w':=by
 have cf:=fun W (h:HoldsT W t)=>RdR.Fits h;have cl:=fun W (h:Tab W) (h':Sta W)=>lives W h h';have HTT:=kj ht;have HTB:=kj tb;have HST:=kj hst;obtain ⟨pr,cap,e1⟩:=ht.r.form;obtain ⟨pz,capz,e3⟩:=ht.z.form;obtain ⟨pl,capl,e5⟩:=ht.l.form;cases hfit:Ck.fitsT t
 ·rw [hfit] at cf;obtain ⟨rv,zv,lv,rs,zs,ls⟩:=t;dsimp only at e1 e3 e5 cf HTT ⊢;subst e1 e3 e5;generalize rs.length=nr at *;generalize zs.length=nz at *;generalize ls.length=nl at *;have CF:=kj cf;have CL:=kj cl;clear cf cl ht tb hst hfit hno;go_enter func9,ntmps9
  go_wp2_with (first
   |(go_at_call 31;(with_reducible refine (CL.out _ ?_ ?_).mono ?_);(· exact HTB.out.later bcq);(· exact HST.out.later bcq);rintro e w1 ⟨rfl,hb1⟩;obtain ⟨hc1_0,hf1_0,hz1_0⟩:=bcs hb1 (w.heap.size))
   |(go_at_call 15;(with_reducible refine (CF.out _ ?_).mono ?_);(· exact HTT.out.later bcq);rintro e w2 ⟨rfl,hb2⟩;obtain ⟨hc2,hf2⟩:=bcell hb2))
  go_ret;exact ⟨rfl,bcq⟩
 have ok:=fits_ok hfit;have hc:(Chk.check t.rs).2=0:=by rw [(Ck.fits_fine hfit).rules]
 rw [hfit] at cf;have hb:(valV t zone s).2≠0:=hno.resolve_left (fun h=>by rw [hfit] at h;cases h);have ca:=fun W (h:HoldsT W t) (tb:Tab W) (hst:Sta W)=>AtT h ok tb hst hc zone s hs (.inl ⟨rfl,hb,rfl⟩);unfold InfV.cells zeroI zeroV at ca;generalize (valV t zone s).2=why at *;obtain ⟨rv,zv,lv,rs,zs,ls⟩:=t;dsimp only at e1 e3 e5 cf ca HTT ⊢;subst e1 e3 e5;generalize rs.length=nr at *;generalize zs.length=nz at *;generalize ls.length=nl at *;have CF:=kj cf;have CL:=kj cl;have CA:=kj ca;have q0:(why != 0)=true:=by simpa using hb
 clear cf cl ca ht tb hst hfit ok hc hno hb;go_enter func9,ntmps9
 go_wp2_with (first
  |(go_at_call 31;(with_reducible refine (CL.out _ ?_ ?_).mono ?_);(· exact HTB.out.later bcq);(· exact HST.out.later bcq);rintro e w1 ⟨rfl,hb1⟩;obtain ⟨hc1_0,hf1_0,hz1_0⟩:=bcs hb1 (w.heap.size))
  |(go_at_call 15;(with_reducible refine (CF.out _ ?_).mono ?_);(· exact HTT.out.later bcq);rintro e w2 ⟨rfl,hb2⟩;obtain ⟨_,_,_⟩:=bcs hb2 (w.heap.size))
  |(go_at_call 32;(with_reducible refine (CA.out _ ?_ ?_ ?_).mono ?_);(· exact HTT.out.later bcq);(· exact HTB.out.later bcq);(· exact HST.out.later bcq);rintro e w3 ⟨rfl,hb3⟩;obtain ⟨_,_,_⟩:=bcs hb3 (w.heap.size)))
 go_ret;exact ⟨rfl,bcq⟩
theorem wall_of {l:List RuleV} {es:List EraV} (hg:GoodE l es) {fr en:Int} {v:ValV} (h:Spn l es fr fr en) (hv:VV l es fr=v):wallV ⟨fr,en,v⟩=(fr+v.off,en+v.off):=by
 have h1:=h.low;have h2:=h.to';have h3:=h.high;have:=vv_bd hg (s:=fr) h1 (by omega);rw [hv] at this;unfold wallV wallB InfV.wf InfV.wt;dsimp only;rw [if_pos (by simp only [Bool.and_eq_true,decide_eq_true_eq];omega)]
set_option maxRecDepth 100000 in
set_option maxHeartbeats 12800000 in
theorem all1 {w:World} {t:TabV} (ht:HoldsT w t) (tb:Tab w) (hst:Sta w) (hfit:Ck.fitsT t=true) (k:Nat) {z:ZoneV} (hz:zoneAt t (k:Int)=some z) (s:Int) (hs:I64 s) (s0:lo≤s) (s1:s≤hi) {a b:Int} (hsp:Spn t.rs z.es s a b):
 Calls prog 9 #[.agg #[t.rv,t.zv,t.lv],.int .i64 (k:Int),.int .i64 s] w fun e w'=>e=.returned (.bool true)∧Below w.heap.size w w':=by
 have cf:=fun W (h:HoldsT W t)=>RdR.Fits h;rw [hfit] at cf;have cl:=fun W (h:Tab W) (h':Sta W)=>lives W h h';have ok:=fits_ok hfit;have hc:(Chk.check t.rs).2=0:=by rw [(Ck.fits_fine hfit).rules]
 have hg:=ok.good z (zone_mem hz).2.2.2;have ca:=fun W (h:HoldsT W t) (tb:Tab W) (hst:Sta W)=>AtC h ok tb hst hc k s hs hz s0 s1 hsp;have hfirst:Spn t.rs z.es a a b∧VV t.rs z.es a=VV t.rs z.es s:=⟨hsp.move (Int.le_refl _) (by have:=hsp.from';have:=hsp.to';omega),hsp.all a (Int.le_refl _) (by have:=hsp.from';have:=hsp.to';omega)⟩
 -- what is asked in a round
 have hround:∀ fi ei oi si ai,Spn t.rs z.es fi fi ei→VV t.rs z.es fi=⟨oi,si,ai⟩→
  (∀ W,Calls prog 38 #[.agg #[.int .i64 fi,.int .i64 ei,.int .i64 oi,.int .i64 si,.string ai]] W fun e w'=>e=.returned (.agg #[.int .i64 (fi+oi),.int .i64 (ei+oi)])∧Below W.heap.size W w')∧(-1096193779200≤fi∧fi<ei∧ei≤971890963200∧ -64800≤oi∧oi≤64800)∧
  ((ei=971890963200∧∀ W,HoldsT W t→Tab W→Sta W→Calls prog 34 #[.agg #[t.rv,t.zv,t.lv],.int .i64 (k:Int),.agg #[.int .i64 fi,.int .i64 ei,.int .i64 oi,.int .i64 si,.string ai]] W fun e w'=>e=.returned (.tuple #[.agg #[.int .i64 0,.int .i64 0,.int .i64 0,.int .i64 0,.string ⟨#[]⟩],.bool false])∧Below W.heap.size W w')∨
  ∃ ek ok sk ak,Apart ⟨ok,sk,ak⟩ ⟨oi,si,ai⟩∧Spn t.rs z.es ei ei ek∧VV t.rs z.es ei=⟨ok,sk,ak⟩∧(∀ W,HoldsT W t→Tab W→Sta W→Calls prog 34 #[.agg #[t.rv,t.zv,t.lv],.int .i64 (k:Int),.agg #[.int .i64 fi,.int .i64 ei,.int .i64 oi,.int .i64 si,.string ai]] W fun e w'=>e=.returned (.tuple #[.agg #[.int .i64 ei,.int .i64 ek,.int .i64 ok,.int .i64 sk,.string ak],.bool true])∧Below W.heap.size W w')∧
    (∀ W,HoldsT W t→Tab W→Sta W→Calls prog 36 #[.agg #[t.rv,t.zv,t.lv],.int .i64 (k:Int),.agg #[.int .i64 ei,.int .i64 ek,.int .i64 ok,.int .i64 sk,.string ak]] W fun e w'=>e=.returned (.tuple #[.agg #[.int .i64 fi,.int .i64 ei,.int .i64 oi,.int .i64 si,.string ai],.bool true])∧Below W.heap.size W w')):=by
  intro fi ei oi si ai h1 h2;have b1:=h1.low;have b2:=h1.to';have b3:=h1.high;have ho:=vv_bd hg (s:=fi) b1 (by omega);rw [h2] at ho;dsimp only at ho;refine ⟨fun W=> ?_,⟨by unfold lo at b1;omega,b2,by unfold hi at b3;omega,ho⟩,?_⟩
  ·have:=WallC fi ei oi si ai W;rw [wall_of hg h1 h2] at this;exact this
  ·by_cases he:ei=hi+1
   ·refine .inl ⟨by rw [he];rfl,fun W h tb hst=> ?_⟩;have:=Behind h ok tb hst hc (k:Int) ei fi ei oi si ai rfl (by unfold I64;unfold lo at b1;unfold hi at b3;omega) (i:=zeroI) (why:=1) (.inl ⟨by rw [(val_out hz (by omega)).1],by decide,rfl⟩);exact this
   ·obtain ⟨ek,c1,c2,c3,c4⟩:=spn_behind hg hc h1 (by omega);refine .inr ⟨ek,(VV t.rs z.es ei).off,(VV t.rs z.es ei).save,(VV t.rs z.es ei).abbr,?_,c1,rfl,fun W h tb hst=> ?_,fun W h tb hst=> ?_⟩
    ·rw [h2] at c2;exact apart_of c2
    ·exact Behind h ok tb hst hc (k:Int) ei fi ei oi si ai rfl (by unfold I64;unfold lo at b1;unfold hi at b3;omega) (i:=⟨ei,ek,VV t.rs z.es ei⟩) (why:=0) (.inr ⟨z,hz,⟨by omega,by omega⟩,rfl,c1,rfl⟩)
    ·exact Ahead h ok tb hst hc (k:Int) (ei-1) ei ek _ _ _ rfl (by unfold I64;unfold lo at b1;unfold hi at b3;omega) (by unfold I64;unfold lo at b1;unfold hi at b3;omega) (by unfold I64;unfold lo at b1;unfold hi at b3;omega) (i:=⟨fi,ei,⟨oi,si,ai⟩⟩) (why:=0) (.inr ⟨z,hz,⟨by omega,by omega⟩,rfl,c3,(c4.trans h2).symm⟩)
 have HTT:=kj ht;have HTB:=kj tb;have HST:=kj hst;obtain ⟨pr,cap,e1⟩:=ht.r.form;obtain ⟨pz,capz,e3⟩:=ht.z.form;obtain ⟨pl,capl,e5⟩:=ht.l.form;generalize hV:VV t.rs z.es s=V at *;obtain ⟨vo,vs,va⟩:=V;unfold Apart at hround;clear ok hc hg hfit ht tb hst hsp hV hz;obtain ⟨rv,zv,lv,rs,zs,ls⟩:=t;dsimp only at e1 e3 e5 cf ca hround hfirst HTT ⊢;subst e1 e3 e5;generalize rs.length=nr at *;generalize zs.length=nz at *;generalize ls.length=nl at *;have CF:=kj cf;have CL:=kj cl;have CA:=kj ca;have HR:=kj hround;have HF:=kj hfirst;clear cf cl ca hround hfirst;go_enter func9,ntmps9
 go_upto_region 8 with (first
  |(go_at_call 31;(with_reducible refine (CL.out _ ?_ ?_).mono ?_);(· exact HTB.out.later bcq);(· exact HST.out.later bcq);rintro e w1 ⟨rfl,hb1⟩;obtain ⟨hc1_0,hf1_0,hz1_0⟩:=bcs hb1 (w.heap.size))
  |(go_at_call 15;(with_reducible refine (CF.out _ ?_).mono ?_);(· exact HTT.out.later bcq);rintro e w2 ⟨rfl,hb2⟩;obtain ⟨hc2_0,hf2_0,hz2_0⟩:=bcs hb2 (w.heap.size))
  |(go_at_call 32;(with_reducible refine (CA.out _ ?_ ?_ ?_).mono ?_);(· exact HTT.out.later bcq);(· exact HTB.out.later bcq);(· exact HST.out.later bcq);rintro e w3 ⟨rfl,hb3⟩;obtain ⟨hc3_0,hf3_0,hz3_0⟩:=bcs hb3 (w.heap.size)))
 have HB3:=kj (show Below w.heap.size w w3 from bcq);have bT3:=(((Box.new w #[.slice pr nr cap,.slice pz nz capz,.slice pl nl capl] 26).later hb1).later hb2).later hb3;obtain ⟨w4,hw4⟩:∃ V,V=w3.alloc (.cells #[.int .i64 a,.int .i64 b,.int .i64 vo,.int .i64 vs,.string va] 72):=⟨_,rfl⟩;have bT4:=bT3.old (o:=.cells #[.int .i64 a,.int .i64 b,.int .i64 vo,.int .i64 vs,.string va] 72);have bI4:=Box.new w3 #[.int .i64 a,.int .i64 b,.int .i64 vo,.int .i64 vs,.string va] 72;rw [← hw4] at bT4 bI4 ⊢;have HB4:=kj (show Below w.heap.size w w4 by rw [hw4];exact ba HB3.out);have hwn:w.heap.size≤w3.heap.size:=HB3.out.size;have hne:w.heap.size≠w3.heap.size:=by have:=bT3.lt;omega
 have HTI:=kj (⟨bT4,bI4⟩:Box w4 w.heap.size _ _∧Box w4 w3.heap.size _ _);obtain ⟨B,hB⟩:∃ B,B=w3.heap.size:=⟨_,rfl⟩;rw [← hB] at HTI hwn hne ⊢;clear hw4 bT3 bT4 bI4 hB hb1 hb2 hb3 hc1_0 hf1_0 hz1_0 hc2_0 hf2_0 hz2_0 hc3_0 hf3_0 hz3_0
 go_upto_region 9 with fail
 go_loopw [9] (fun s9 wr=>∃ (n:Nat) (fi ei oi si:Int) (ai:ByteArray),s9=.int .i64 n∧n≤4∧Hid (Spn rs z.es fi fi ei∧VV rs z.es fi=⟨oi,si,ai⟩)∧Hid (Box wr w.heap.size #[.slice pr nr cap,.slice pz nz capz,.slice pl nl capl] 26∧Box wr B #[.int .i64 fi,.int .i64 ei,.int .i64 oi,.int .i64 si,.string ai] 72)∧Below w.heap.size w wr) (fun s9 _=>4-(intOf s9).toNat)
 case atStart=>exact ⟨0,a,b,vo,vs,va,rfl,Nat.zero_le _,HF,HTI,HB4.out⟩
 case round=>
  obtain ⟨n,fi,ei,oi,si,ai,rfl,hn,HI,HBX,hbr⟩:=hrel
  by_cases hlt:n<4
  case neg=>
   obtain rfl:n=4:=by omega
   go_wp2;go_ret;exact ⟨rfl,hbr⟩
  have q1:(n:Int)<4:=by omega
  obtain ⟨cw,⟨g1,g2,g3,g4,g5⟩,hcase⟩:=HR.out fi ei oi si ai HI.out.1 HI.out.2;have cT:=HBX.out.1.cell;have cI:=HBX.out.2.cell;have lT:=HBX.out.1.lt;have lI:=HBX.out.2.lt;have hTr:=kj (HTT.out.later hbr);have hBr:=kj (HTB.out.later hbr);have hSr:=kj (HST.out.later hbr);have CW:=kj cw;clear cw;rcases hcase with ⟨rfl,cb⟩|⟨ek,ok,sk,ak,hap,hk1,hk2,cb,cd⟩
  ·have CB:=kj cb;clear cb
   go_wp2_with (first
    |(go_at_call 38;(with_reducible refine (CW.out _).mono ?_);rintro e w11 ⟨rfl,hb11⟩;obtain ⟨hc11_0,hf11_0,hz11_0⟩:=bcs hb11 (w.heap.size);obtain ⟨hc11_1,hf11_1,hz11_1⟩:=bcs hb11 (B))
    |(go_at_call 34;(with_reducible refine (CB.out _ ?_ ?_ ?_).mono ?_);(· exact hTr.out.later bcq);(· exact hBr.out.later bcq);(· exact hSr.out.later bcq);rintro e w12 ⟨rfl,hb12⟩;obtain ⟨hc12_0,hf12_0,hz12_0⟩:=bcs hb12 (w.heap.size);obtain ⟨hc12_1,hf12_1,hz12_1⟩:=bcs hb12 (B)))
   go_ret;exact ⟨rfl,bt hbr bcq⟩
  ·have CB:=kj cb;have CD:=kj cd;have HK:=kj (And.intro hk1 hk2);clear cb cd hk1 hk2
   go_upto_region 18 with (first
    |(go_at_call 38;(with_reducible refine (CW.out _).mono ?_);rintro e w11 ⟨rfl,hb11⟩;obtain ⟨hc11_0,hf11_0,hz11_0⟩:=bcs hb11 (w.heap.size);obtain ⟨hc11_1,hf11_1,hz11_1⟩:=bcs hb11 (B))
    |(go_at_call 34;(with_reducible refine (CB.out _ ?_ ?_ ?_).mono ?_);(· exact hTr.out.later bcq);(· exact hBr.out.later bcq);(· exact hSr.out.later bcq);rintro e w12 ⟨rfl,hb12⟩;obtain ⟨hc12_0,hf12_0,hz12_0⟩:=bcs hb12 (w.heap.size);obtain ⟨hc12_1,hf12_1,hz12_1⟩:=bcs hb12 (B);obtain ⟨hc12_2,hf12_2,_⟩:=bcs hb12 (w11.heap.size))
    |(go_at_call 36;(with_reducible refine (CD.out _ ?_ ?_ ?_).mono ?_);(· exact hTr.out.later bcq);(· exact hBr.out.later bcq);(· exact hSr.out.later bcq);rintro e w13 ⟨rfl,hb13⟩;obtain ⟨hc13_0,hf13_0,hz13_0⟩:=bcs hb13 (w.heap.size);obtain ⟨hc13_1,hf13_1,hz13_1⟩:=bcs hb13 (B);obtain ⟨hc13_2,hf13_2,_⟩:=bcs hb13 (w12.heap.size)))
   have hb13':Below wr.heap.size wr w13:=bcq;have bT14:=(HBX.out.1.later hb13').old (o:=.cells #[.int .i64 fi,.int .i64 ei,.int .i64 oi,.int .i64 si,.string ai] 72);have bI14:=(HBX.out.2.later hb13').old (o:=.cells #[.int .i64 fi,.int .i64 ei,.int .i64 oi,.int .i64 si,.string ai] 72);have bK14:=((Box.new w12 #[.int .i64 ei,.int .i64 ek,.int .i64 ok,.int .i64 sk,.string ak] 72).later hb13).old (o:=.cells #[.int .i64 fi,.int .i64 ei,.int .i64 oi,.int .i64 si,.string ai] 72);have bB14:=Box.new w13 #[.int .i64 fi,.int .i64 ei,.int .i64 oi,.int .i64 si,.string ai] 72;obtain ⟨w14,hw14⟩:∃ V,V=w13.alloc (.cells #[.int .i64 fi,.int .i64 ei,.int .i64 oi,.int .i64 si,.string ai] 72):=⟨_,rfl⟩;rw [← hw14] at bT14 bI14 bK14 bB14 ⊢;have HB14:=kj (show Below w.heap.size w w14 by rw [hw14];exact ba (bt hbr hb13'));clear hw14 hb13' hb11 hb12 hb13 cT cI lT lI hc11_0 hf11_0 hz11_0 hc11_1 hf11_1 hz11_1 hc12_0 hf12_0 hz12_0 hc12_1 hf12_1 hz12_1 hc12_2 hf12_2 hc13_0 hf13_0 hz13_0 hc13_1 hf13_1 hz13_1 hc13_2 hf13_2;have cI:=bI14.cell;have cK:=bK14.cell;have cB:=bB14.cell;have lI:=bI14.lt;have lK:=bK14.lt;have lB:=bB14.lt;have fI:=bI14.free;have HBT:=kj bT14;have HBI:=kj bI14;clear bT14 bI14 bK14 bB14;rcases hap with h|⟨rfl,h⟩|⟨rfl,rfl,h⟩
   all_goals
    go_wp2;go_roundw
    case rel=>
     have bT:=HBT.out;have hB:=HB14.out;exact ⟨n+1,ei,ek,_,_,_,by go_num,by omega,HK,kj ⟨bxq,Box.set5i HBI.out⟩,bcq⟩
    case measure=>simp [intOf];omega
theorem allW (t:TabV) (zone s:Int) (W:World) (ht:HoldsT W t) (_:I64 zone) (hs:I64 s) (tb:Tab W) (hst:Sta W):
 Calls prog 9 #[.agg t.cells.toArray,.int .i64 zone,.int .i64 s] W fun e w'=>e=.returned (.bool true)∧Below W.heap.size W w':=by
 show Calls prog 9 #[.agg #[t.rv,t.zv,t.lv],.int .i64 zone,.int .i64 s] W _
 by_cases hno:Ck.fitsT t=false∨(valV t zone s).2≠0
 ·exact all0 ht tb hst zone s hs hno
 ·have hfit:Ck.fitsT t=true:=by cases h:Ck.fitsT t;exact absurd (.inl h) hno;rfl
  have h1:(valV t zone s).2=0:=Classical.byContradiction fun h=>hno (.inr h);have ok:=fits_ok hfit;have hc:(Chk.check t.rs).2=0:=by rw [(Ck.fits_fine hfit).rules]
  obtain ⟨z,hz,s0,s1⟩:=val_ok ok h1;obtain ⟨kz,rfl⟩:∃ kz:Nat,zone=(kz:Int):=⟨zone.toNat,by have:=(zone_mem hz).1;omega⟩;obtain ⟨a,b,hsp⟩:=spn_total (ok.good z (zone_mem hz).2.2.2) hc s0 s1;exact all1 ht tb hst hfit kz hz s hs s0 s1 hsp
end L36
end Go.Proofs.YtgmfojgnjdpofaaGreatDoor
