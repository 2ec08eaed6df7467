import Derived.Test.YtgmfojgnjdpofaaGreatDoorG37
namespace Go.Proofs.YtgmfojgnjdpofaaGreatDoor
section
open Go.RowKit NB
namespace L35
open Pt Chg L34
set_option maxRecDepth 100000 in
set_option maxHeartbeats 1600000 in
theorem FarC (xo xs:Int) (xa:ByteArray) (yo ys:Int) (ya:ByteArray) (hx: -64800≤xo∧xo≤64800) (hy: -64800≤yo∧yo≤64800) (w:World):
 Calls Tryz.prog 19 #[.agg #[.int .i64 xo,.int .i64 xs,.string xa],.agg #[.int .i64 yo,.int .i64 ys,.string ya]] w fun e w'=>e= .returned (.int .i64 (max (xo-yo) (yo-xo)))∧Below w.heap.size w w':=by
 obtain ⟨hx1,hx2⟩:=hx
 obtain ⟨hy1,hy2⟩:=hy
 go_enter Tryz.func19,Tryz.ntmps19
 go_wp2
 go_ret
 refine ⟨?_,bcq⟩
 first|rfl|(congr 2;omega)
set_option maxRecDepth 100000 in
set_option maxHeartbeats 6400000 in
theorem far0 {w:World} {t:TabV} (ht:HoldsT w t) (tb:Tab w) (hst:Sta w) (zone s:Int) (hs:I64 s) (hno:Ck.fitsT t=false∨∃ n k m b,NextT t zone s (n,k)∧NextT t zone n (m,b)∧I64 n∧(k=false∨b=false)):
 Calls Tryz.prog 4 #[.agg #[t.rv,t.zv,t.lv],.int .i64 zone,.int .i64 s] w fun e w'=>e= .returned (.bool true)∧Below w.heap.size w w':=by
 have cf:=fun W (h:HoldsT W t)=>RdR.Fits h
 have cl:=fun W (h:Tab W) (h':Sta W)=>lives W h h'
 have HTT:=Lib.hid ht
 have HTB:=Lib.hid tb
 have HST:=Lib.hid hst
 obtain ⟨p,cap,e1⟩:=ht.r.form
 obtain ⟨pz,capz,e3⟩:=ht.z.form
 obtain ⟨pl,capl,e5⟩:=ht.l.form
 cases hfit:Ck.fitsT t
 ·rw [hfit] at cf
  obtain ⟨rv,zv,lv,rs,zs,ls⟩:=t
  dsimp only at e1 e3 e5 cf HTT ⊢
  subst e1 e3 e5
  generalize rs.length=n at *
  generalize zs.length=nz at *
  generalize ls.length=nl at *
  have CF:=Lib.hid cf;have CL:=Lib.hid cl
  clear cf cl ht tb hst hfit hno
  go_enter Tryz.func4,Tryz.ntmps4
  go_wp2_with (first
   |(go_at_call 14;(with_reducible refine (CL.out _ ?_ ?_).mono ?_);(· exact HTB.out.later bcq);(· exact HST.out.later bcq);rintro e w1 ⟨rfl,hb1⟩;obtain ⟨hc1_0,hf1_0,hz1_0⟩:=bcs hb1 (w.heap.size))
   |(go_at_call 15;(with_reducible refine (CF.out _ ?_).mono ?_);(· exact HTT.out.later bcq);rintro e w2 ⟨rfl,hb2⟩;obtain ⟨hc2,hf2⟩:=bcell hb2))
  go_ret
  exact ⟨rfl,bcq⟩
 have ok:=fits_ok hfit
 have hc:(Chk.check t.rs).2=0:=by rw [(Ck.fits_fine hfit).rules]
 rw [hfit] at cf
 obtain ⟨n,k,m,b,h1,h2,hn,hkb⟩:=hno.resolve_left (fun h=>by rw [hfit] at h;cases h)
 have c1:=fun W (h:HoldsT W t) (tb:Tab W) (hst:Sta W)=>(NextA h ok tb hst hc zone s hs h1).mono fun _ _ h=>(⟨h.1,h.2.1⟩:_∧_)
 have c2:=fun W (h:HoldsT W t) (tb:Tab W) (hst:Sta W)=>(NextA h ok tb hst hc zone n hn h2).mono fun _ _ h=>(⟨h.1,h.2.1⟩:_∧_)
 dsimp only at c1 c2
 clear h1 h2 hno
 obtain ⟨rv,zv,lv,rs,zs,ls⟩:=t
 dsimp only at e1 e3 e5 cf c1 c2 HTT ⊢
 subst e1 e3 e5
 generalize rs.length=nn at *
 generalize zs.length=nz at *
 generalize ls.length=nl at *
 have CF:=Lib.hid cf;have CL:=Lib.hid cl;have C1:=Lib.hid c1;have C2:=Lib.hid c2
 clear cf cl c1 c2 ht tb hst hfit ok hc
 have hcs:k=false∨(k=true∧b=false):=by
  cases k
  ·exact .inl rfl
  ·exact .inr ⟨rfl,hkb.resolve_left (by decide)⟩
 clear hkb
 rcases hcs with rfl|⟨rfl,rfl⟩
 all_goals
  go_enter Tryz.func4,Tryz.ntmps4
  go_wp2_with (first
   |(go_at_call 14;(with_reducible refine (CL.out _ ?_ ?_).mono ?_);(· exact HTB.out.later bcq);(· exact HST.out.later bcq);rintro e w1 ⟨rfl,hb1⟩;obtain ⟨hc1_0,hf1_0,hz1_0⟩:=bcs hb1 (w.heap.size))
   |(go_at_call 15;(with_reducible refine (CF.out _ ?_).mono ?_);(· exact HTT.out.later bcq);rintro e w2 ⟨rfl,hb2⟩;obtain ⟨hc2_0,hf2_0,hz2_0⟩:=bcs hb2 (w.heap.size))
   |(go_at_call 17;(with_reducible refine (C1.out _ ?_ ?_ ?_).mono ?_);(· exact HTT.out.later bcq);(· exact HTB.out.later bcq);(· exact HST.out.later bcq);rintro e w3 ⟨rfl,hb3⟩;obtain ⟨hc3_0,hf3_0,hz3_0⟩:=bcs hb3 (w.heap.size))
   |(go_at_call 17;(with_reducible refine (C2.out _ ?_ ?_ ?_).mono ?_);(· exact HTT.out.later bcq);(· exact HTB.out.later bcq);(· exact HST.out.later bcq);rintro e w4 ⟨rfl,hb4⟩;obtain ⟨hc4,hf4⟩:=bcell hb4))
  go_ret
  exact ⟨rfl,bcq⟩
set_option maxRecDepth 100000 in
set_option maxHeartbeats 12800000 in
theorem far1 {w:World} {t:TabV} (ht:HoldsT w t) (tb:Tab w) (hst:Sta w) (hfit:Ck.fitsT t=true) (k:Nat) {z:ZoneV} (hz:zoneAt t (k:Int)=some z) (s n b:Int) (s0:lo≤s) (s1:s≤hi) (hr1:NextR t.rs z.es (VV t.rs z.es s) s (n,true)) (hr2:NextR t.rs z.es (VV t.rs z.es n) n (b,true)):
 Calls Tryz.prog 4 #[.agg #[t.rv,t.zv,t.lv],.int .i64 (k:Int),.int .i64 s] w fun e w'=>e= .returned (.bool true)∧Below w.heap.size w w':=by
 have cf:=fun W (h:HoldsT W t)=>RdR.Fits h
 rw [hfit] at cf
 have cl:=fun W (h:Tab W) (h':Sta W)=>lives W h h'
 have ok:=fits_ok hfit
 have hc:(Chk.check t.rs).2=0:=by rw [(Ck.fits_fine hfit).rules]
 have hN:=near_of ((Ck.fits_fine hfit).eras z (zone_mem hz).2.2.2)
 have hg:=hN.good
 obtain ⟨a1,a2,a3,a4⟩:=(next_spec hg hc hr1 s0 s1 rfl).1 rfl
 dsimp only at a1 a2 a3 a4
 obtain ⟨b1,b2,b3,b4⟩:=(next_spec hg hc hr2 (by omega) a2 rfl).1 rfl
 dsimp only at b1 b2 b3 b4
 have e1:=a4 (n-1) (by omega) (by omega)
 have e2:=b4 (b-1) (by omega) (by omega)
 have hA:VV t.rs z.es (n-1)≠VV t.rs z.es n:=fun h=>a3 (by rw [← h,e1])
 have hB:VV t.rs z.es (b-1)≠VV t.rs z.es b:=fun h=>b3 (by rw [← h,e2])
 obtain ⟨f1,f2,_⟩:=far_law hN hc (a:=n) (b:=b) (by omega) a2 b2 b1 hA hB
 rw [e2] at f1
 have v1:=vv_bd hg (s:=n-1) (by omega) (by omega)
 have v2:=vv_bd hg (s:=n) (by omega) (by omega)
 have v3:=vv_bd hg (s:=b) (by omega) (by omega)
 have c3:=fun W (h:HoldsT W t) (tb:Tab W) (hst:Sta W)=>next_c' h ok tb hst hc hz s0 s1 hr1
 have c4:=fun W (h:HoldsT W t) (tb:Tab W) (hst:Sta W)=>next_c' h ok tb hst hc hz (by omega) a2 hr2
 have c5:=fun W (h:HoldsT W t) (tb:Tab W)=>val_c' h ok tb hz (c:=n-1) (by omega) (by omega) rfl
 have c6:=fun W (h:HoldsT W t) (tb:Tab W)=>val_c' h ok tb hz (c:=n) (by omega) (by omega) rfl
 have c7:=fun W (h:HoldsT W t) (tb:Tab W)=>val_c' h ok tb hz (c:=b) (by omega) (by omega) rfl
 obtain ⟨ys,hys⟩:=runs_total ok hc (k:Int) _ b (Nat.le_refl _)
 have hn1:NextT t (k:Int) (n-1) (n,true):= .inr ⟨z,hz,⟨by omega,by omega⟩,next_of hg hc (by omega) a2 hA⟩
 have hn2:NextT t (k:Int) n (b,true):= .inr ⟨z,hz,⟨by omega,by omega⟩,hr2⟩
 have hrun:Runs t (k:Int) (max n (-1096193779199)-1) (n :: b :: ys):=by
  rw [show max n (-1096193779199)-1=n-1 by unfold lo at s0;omega]
  exact .cons hn1 (.cons hn2 hys)
 have c8:=fun W (h:HoldsT W t) (tb:Tab W) (hst:Sta W)=>CountC h ok tb hst hc (k:Int) n b 9 (by unfold I64;unfold lo at s0;unfold hi at a2;omega) (by decide) hrun
 rw [if_pos ⟨b1,by decide⟩,show cnt b (9:Int).toNat (n :: b :: ys)=1 from by
  show (if n<b then cnt b 8 (b :: ys)+1 else 0)=1
  rw [if_pos b1]
  show (if b<b then _ else 0)+1=1
  rw [if_neg (Int.lt_irrefl _)]] at c8
 have HTT:=Lib.hid ht
 have HTB:=Lib.hid tb
 have HST:=Lib.hid hst
 obtain ⟨pr,cap,e1'⟩:=ht.r.form
 obtain ⟨pz,capz,e3'⟩:=ht.z.form
 obtain ⟨pl,capl,e5'⟩:=ht.l.form
 clear hr1 hr2 hrun hys hn1 hn2 a3 a4 b3 b4 hA hB e1 e2
 generalize VV t.rs z.es (n-1)=X at *
 generalize VV t.rs z.es n=Y at *
 generalize VV t.rs z.es b=Z at *
 clear ok hc hg hN hz hfit ht tb hst ys
 obtain ⟨rv,zv,lv,rs,zs,ls⟩:=t
 obtain ⟨xo,xs,xa⟩:=X
 obtain ⟨yo,ys,ya⟩:=Y
 obtain ⟨zo,zs',za⟩:=Z
 unfold gap at f1 f2
 dsimp only at e1' e3' e5' cf c3 c4 c5 c6 c7 c8 f1 f2 v1 v2 v3 HTT ⊢
 subst e1' e3' e5'
 generalize rs.length=nr at *
 generalize zs.length=nz at *
 generalize ls.length=nl at *
 have g1:=fun W=>FarC xo xs xa yo ys ya v1 v2 W
 have g2:=fun W=>FarC yo ys ya zo zs' za v2 v3 W
 obtain ⟨P,hP⟩:∃ P,P=max (xo-yo) (yo-xo):=⟨_,rfl⟩
 obtain ⟨Q,hQ⟩:∃ Q,Q=max (yo-zo) (zo-yo):=⟨_,rfl⟩
 rw [← hP] at f1 f2 g1
 rw [← hQ] at f1 g2
 have q1:P+Q≤b-n:=f1
 have q2:0≤P∧0≤Q∧Q≤129600:=by omega
 obtain ⟨q2,q3,q4⟩:=q2
 have CF:=Lib.hid cf;have CL:=Lib.hid cl;have C3:=Lib.hid c3;have C4:=Lib.hid c4;have C5:=Lib.hid c5;have C6:=Lib.hid c6;have C7:=Lib.hid c7;have C8:=Lib.hid c8;have G1:=Lib.hid g1;have G2:=Lib.hid g2
 clear cf cl c3 c4 c5 c6 c7 c8 g1 g2 hP hQ v1 v2 v3 f1
 unfold lo at s0
 unfold hi at s1 a2 b2
 go_enter Tryz.func4,Tryz.ntmps4
 go_upto_region 12 with (first
  |(go_at_call 14;(with_reducible refine (CL.out _ ?_ ?_).mono ?_);(· exact HTB.out.later bcq);(· exact HST.out.later bcq);rintro e w1 ⟨rfl,hb1⟩;obtain ⟨hc1_0,hf1_0,hz1_0⟩:=bcs hb1 (w.heap.size))
  |(go_at_call 15;(with_reducible refine (CF.out _ ?_).mono ?_);(· exact HTT.out.later bcq);rintro e w2 ⟨rfl,hb2⟩;obtain ⟨hc2_0,hf2_0,hz2_0⟩:=bcs hb2 (w.heap.size))
  |(go_at_call 17;(with_reducible refine (C3.out _ ?_ ?_ ?_).mono ?_);(· exact HTT.out.later bcq);(· exact HTB.out.later bcq);(· exact HST.out.later bcq);rintro e w3 ⟨rfl,hb3⟩;obtain ⟨hc3_0,hf3_0,hz3_0⟩:=bcs hb3 (w.heap.size))
  |(go_at_call 17;(with_reducible refine (C4.out _ ?_ ?_ ?_).mono ?_);(· exact HTT.out.later bcq);(· exact HTB.out.later bcq);(· exact HST.out.later bcq);rintro e w4 ⟨rfl,hb4⟩;obtain ⟨hc4_0,hf4_0,hz4_0⟩:=bcs hb4 (w.heap.size))
  |(go_at_call 16;(with_reducible refine (C5.out _ ?_ ?_).mono ?_);(· exact HTT.out.later bcq);(· exact HTB.out.later bcq);rintro e w5 ⟨rfl,hb5⟩;obtain ⟨hc5_0,hf5_0,hz5_0⟩:=bcs hb5 (w.heap.size))
  |(go_at_call 16;(with_reducible refine (C6.out _ ?_ ?_).mono ?_);(· exact HTT.out.later bcq);(· exact HTB.out.later bcq);rintro e w6 ⟨rfl,hb6⟩;obtain ⟨hc6_0,hf6_0,hz6_0⟩:=bcs hb6 (w.heap.size);obtain ⟨hc6_1,hf6_1,hz6_1⟩:=bcs hb6 (w5.heap.size))
  |(go_at_call 16;(with_reducible refine (C7.out _ ?_ ?_).mono ?_);(· exact HTT.out.later bcq);(· exact HTB.out.later bcq);rintro e w7 ⟨rfl,hb7⟩;obtain ⟨hc7_0,hf7_0,hz7_0⟩:=bcs hb7 (w.heap.size);obtain ⟨hc7_1,hf7_1,hz7_1⟩:=bcs hb7 (w5.heap.size);obtain ⟨hc7_2,hf7_2,hz7_2⟩:=bcs hb7 (w6.heap.size)))
 have HB7:=Lib.hid (show Below w.heap.size w w7 from bcq)
 have bT7:=((((((((((Box.new w #[.slice pr nr cap,.slice pz nz capz,.slice pl nl capl] 26).later hb1).later hb2).later hb3).later hb4).later hb5).old (o:= .cells #[.int .i64 xo,.int .i64 xs,.string xa] 30)).later hb6).old (o:= .cells #[.int .i64 yo,.int .i64 ys,.string ya] 30)).later hb7).old (o:= .cells #[.int .i64 zo,.int .i64 zs',.string za] 30)
 have bX7:=((((Box.new w5 #[.int .i64 xo,.int .i64 xs,.string xa] 30).later hb6).old (o:= .cells #[.int .i64 yo,.int .i64 ys,.string ya] 30)).later hb7).old (o:= .cells #[.int .i64 zo,.int .i64 zs',.string za] 30)
 have bY7:=((Box.new w6 #[.int .i64 yo,.int .i64 ys,.string ya] 30).later hb7).old (o:= .cells #[.int .i64 zo,.int .i64 zs',.string za] 30)
 have bZ7:=Box.new w7 #[.int .i64 zo,.int .i64 zs',.string za] 30
 obtain ⟨w8,hw8⟩:∃ V,V=w7.alloc (.cells #[.int .i64 zo,.int .i64 zs',.string za] 30):=⟨_,rfl⟩
 rw [← hw8] at bT7 bX7 bY7 bZ7 ⊢
 have HB8:=Lib.hid (show Below w.heap.size w w8 by rw [hw8];exact ba HB7.out)
 clear hw8 HB7 hb1 hb2 hb3 hb4 hb5 hb6 hb7 hc1_0 hf1_0 hz1_0 hc2_0 hf2_0 hz2_0 hc3_0 hf3_0 hz3_0 hc4_0 hf4_0 hz4_0 hc5_0 hf5_0 hz5_0 hc6_0 hf6_0 hz6_0 hc6_1 hf6_1 hz6_1 hc7_0 hf7_0 hz7_0 hc7_1 hf7_1 hz7_1 hc7_2 hf7_2 hz7_2
 have cT:=bT7.cell;have cX:=bX7.cell;have cY:=bY7.cell;have cZ:=bZ7.cell
 have lT:=bT7.lt;have lX:=bX7.lt;have lY:=bY7.lt;have lZ:=bZ7.lt
 have HT8:=Lib.hid (HTT.out.later HB8.out);have HTB8:=Lib.hid (HTB.out.later HB8.out);have HST8:=Lib.hid (HST.out.later HB8.out)
 clear bT7 bX7 bY7 bZ7
 (refine region_later (by kernel_rfl) (by kernel_rfl) ?_;(repeat (go_big_quiet_step (first|(go_at_call 19;rename_i xL;with_reducible first|exact calls_later xL (Nat.le_refl _) (G1.out _)|exact calls_later xL (Nat.le_refl _) (G2.out _))|(go_at_call 20;rename_i xL;apply calls_later xL (Nat.le_refl _);exact (C8.out _ (HT8.out.later xL.h) (HTB8.out.later xL.h) (HST8.out.later xL.h))))));refine wpQuiet_nil ?_;rintro _ ⟨⟨u9,hu9⟩,rfl⟩)
 go_wp2
 go_ret
 exact ⟨rfl,bt HB8.out hu9⟩
end L35
end
section
open Go.RowKit NB
namespace L35
open Pt Chg L34
theorem farW (t:TabV) (zone s:Int) (W:World) (ht:HoldsT W t) (_:I64 zone) (hs:I64 s) (tb:Tab W) (hst:Sta W):
 Calls Tryz.prog 4 #[.agg t.cells.toArray,.int .i64 zone,.int .i64 s] W fun e w'=>e= .returned (.bool true)∧Below W.heap.size W w':=by
 show Calls Tryz.prog 4 #[.agg #[t.rv,t.zv,t.lv],.int .i64 zone,.int .i64 s] W _
 cases hfit:Ck.fitsT t
 ·exact far0 ht tb hst zone s hs (.inl hfit)
 ·have ok:=fits_ok hfit
  have hc:(Chk.check t.rs).2=0:=by rw [(Ck.fits_fine hfit).rules]
  obtain ⟨⟨n,k⟩,h1⟩:=nextT_total ok hc zone s
  obtain ⟨⟨b,m⟩,h2⟩:=nextT_total ok hc zone n
  have hn:I64 n:=by
   rcases h1 with ⟨_,h⟩|⟨z,hz,⟨h0,h1⟩,hr⟩
   ·cases h;unfold I64;decide
   ·obtain ⟨a1,a2⟩:=next_spec (ok.good z (zone_mem hz).2.2.2) hc hr h0 h1 rfl
    unfold I64
    unfold lo at h0
    cases k
    ·have:=(a2 rfl).1;dsimp only at this;omega
    ·have:=a1 rfl;dsimp only at this;unfold hi at this;omega
  by_cases hkm:k=false∨m=false
  ·exact far0 ht tb hst zone s hs (.inr ⟨n,k,b,m,h1,h2,hn,hkm⟩)
  ·obtain rfl:k=true:=by cases k;exact absurd (.inl rfl) hkm;rfl
   obtain rfl:m=true:=by cases m;exact absurd (.inr rfl) hkm;rfl
   rcases h1 with ⟨_,h⟩|⟨z,hz,⟨h0,h1⟩,hr⟩
   ·cases h
   rcases h2 with ⟨_,h⟩|⟨z',hz',_,hr2⟩
   ·cases h
   rw [hz] at hz'
   cases hz'
   obtain ⟨kz,rfl⟩:∃ kz:Nat,zone=(kz:Int):=⟨zone.toNat,by have:=(zone_mem hz).1;omega⟩
   exact far1 ht tb hst hfit kz hz s n b h0 h1 hr hr2
end L35
end
end Go.Proofs.YtgmfojgnjdpofaaGreatDoor
