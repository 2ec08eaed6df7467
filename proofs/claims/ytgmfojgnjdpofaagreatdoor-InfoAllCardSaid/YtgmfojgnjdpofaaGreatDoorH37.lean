import Derived.Test.YtgmfojgnjdpofaaGreatDoorH34
import Derived.Test.YtgmfojgnjdpofaaGreatDoorH36
import Derived.Test.YtgmfojgnjdpofaaGreatDoorH3
import Derived.Test.YtgmfojgnjdpofaaGreatDoorH11
import Derived.Test.YtgmfojgnjdpofaaGreatDoorH4
import Derived.Test.YtgmfojgnjdpofaaGreatDoorH35
import Derived.Test.YtgmfojgnjdpofaaGreatDoorH33
namespace Go.Proofs.YtgmfojgnjdpofaaGreatDoor
open Go.Proofs.Tryz
section
open Go.RowKit NB
namespace Chg
open Pt
set_option maxRecDepth 100000 in
set_option maxHeartbeats 3200000 in
theorem PrevNot {w:World} {t:TabV} (ht:HoldsT w t) (ok:Ok t) (tb:Tab w) (zone s:Int) (hs:I64 s) (hb:(valV t zone s).2≠0):
 Calls prog 18 #[.agg #[t.rv,t.zv,t.lv],.int .i64 zone,.int .i64 s] w fun e w'=>e=.returned (.tuple #[.int .i64 0,.bool false])∧Below w.heap.size w w':=by
 have cv:=fun W (h:HoldsT W t) (tb:Tab W)=>FromNot h ok tb zone s hs hb;have HTT:=kj ht;have HTB:=kj tb;obtain ⟨p,cap,e1⟩:=ht.r.form;obtain ⟨pz,capz,e3⟩:=ht.z.form;obtain ⟨pl,capl,e7⟩:=ht.l.form;obtain ⟨rv,zv,lv,rs,zs,ls⟩:=t;dsimp only at e1 e3 e7 cv HTT ⊢;subst e1 e3 e7;generalize rs.length=n at *;generalize zs.length=nz at *;generalize ls.length=nl at *;have CV:=kj cv;clear cv ht tb ok hb;go_enter func18,ntmps18
 go_upto_region 2 with (go_at_call 52;(with_reducible refine (CV.out _ ?_ ?_).mono ?_);(· exact HTT.out.later bcq);(· exact HTB.out.later bcq);rintro e w1 ⟨rfl,hb1⟩;obtain ⟨_,_,_⟩:=bcs hb1 (w.heap.size))
 go_loopw [2] (fun s2 wr=>wr=w1) (fun _ _=>0)
 case atStart=>rfl
 case round=>
  subst hrel;go_wp2;go_ret2;exact ⟨rfl,bcq⟩
set_option maxRecDepth 100000 in
set_option maxHeartbeats 6400000 in
theorem PrevC {w:World} {t:TabV} (ht:HoldsT w t) (ok:Ok t) (tb:Tab w) (hst:Sta w) (_hc:(Chk.check t.rs).2=0) (k:Nat) (s:Int) (hs:I64 s) {z:ZoneV} (hzz:zoneAt t (k:Int)=some z) (h0:lo≤s) (h1:s≤hi) {r:Int×Bool} (hr:PrevR t.rs z.es (VV t.rs z.es s) s r):
 Calls prog 18 #[.agg #[t.rv,t.zv,t.lv],.int .i64 k,.int .i64 s] w fun e w'=>e=.returned (.tuple #[.int .i64 r.1,.bool r.2])∧Below w.heap.size w w':=by
 have cfm:=fun W (h:HoldsT W t) (tb:Tab W)=>From h ok tb k s hs hzz h0 h1;have hzm:=(zone_mem hzz).2.2.2;have hg:=ok.good z hzm;have hfit:=(ht.zf z hzm).e.fit;have cer:=fun W (p:Nat) (pe:Option Addr) (cp:Nat) (hW:Walk W p t k (Zn.endsL t.rs z.es) (VV t.rs z.es s) pe cp) (h:HoldsT W t) (c:Int) (c0:lo≤c) (c1:c≤hi) (x:EraV) (hx:z.es[idx (Zn.endsL t.rs z.es) c]? =some x)=>EraC hW h ok hzz c c0 c1 hx;have cot:=fun W (p:Nat) (pe:Option Addr) (cp:Nat) (hW:Walk W p t k (Zn.endsL t.rs z.es) (VV t.rs z.es s) pe cp) (h:HoldsT W t) (tb:Tab W) (c:Int) (c0:lo≤c) (c1:c≤hi)=>OtherC hW h ok tb hzz c c0 c1;have cfn:=fun W (h:Holds W t.rv t.rs) (x:EraV) (hx:x.Fit) (c:Int) (tb:Tab W) (hst:Sta W)=>Frc.Prev h x hx c tb hst ok.lets (by have:=ok.rn;omega);have hstart:=fun (c:Int)=>start_spec hg (l:=t.rs) c;have hera:=fun (c:Int)=>era_at hg c;have HLB:=kj (show (Zn.endsL t.rs z.es).length≤1000 by have:=ok.en z hzm;have:=Unt.ends_len (l:=t.rs) hg.zone;omega);have hend:=fun (i:Nat) x (h:(Zn.endsL t.rs z.es)[i]? =some x)=>end_range hg.zone h;have HTT:=kj ht;have HTB:=kj tb;have HST:=kj hst;obtain ⟨p0,cap,e1⟩:=ht.r.form;obtain ⟨pz,capz,e3⟩:=ht.z.form;obtain ⟨pl,capl,e7⟩:=ht.l.form;have hhr:=ht.r;generalize VV t.rs z.es s=V at *;obtain ⟨R,B⟩:=r;dsimp only;have CFM:=kj cfm;have CER:=kj cer;have COT:=kj cot;have CFN:=kj cfn;have HSTART:=kj hstart;have HERA:=kj hera;have HEND:=kj hend;have HR:=kj hr;have HFIT:=kj hfit;have HHR:=kj hhr;clear cfm cer cot cfn hstart hera hend hr hfit hhr ok ht tb hst hg hzm hzz;obtain ⟨rv,zv,lv,rs,zs,ls⟩:=t;dsimp only at e1 e3 e7 ⊢;subst e1 e3 e7;generalize rs.length=n at *;generalize zs.length=nz at *;generalize ls.length=nl at *;go_enter func18,ntmps18
 go_upto_region 1 with fail
 obtain ⟨w1,hw1⟩:∃ V,V=w.alloc (.cells #[.slice p0 n cap,.slice pz nz capz,.slice pl nl capl] 26):=⟨_,rfl⟩;have b1:Box w1 w.heap.size #[.slice p0 n cap,.slice pz nz capz,.slice pl nl capl] 26:=by rw [hw1];exact Box.new _ _ _
 have hB1:Below w.heap.size w w1:=by rw [hw1];exact bcq
 rw [← hw1];clear hw1;have c1:=b1.cell
 go_upto_region 2 with (go_at_call 52;(with_reducible refine (CFM.out _ ?_ ?_).mono ?_);(· exact HTT.out.later hB1);(· exact HTB.out.later hB1);rintro e w2 ⟨p,pe,cp,rfl,hW,hb2⟩;have HW:=kj hW;clear hW)
 have HB2:=kj (hB1.trans (hb2.mono hB1.size));have HT2:=kj (b1.later hb2);clear hB1 hb2 b1 c1
 go_loopw [2] (fun s2 wr=>∃ c:Int,s2=.int .i64 c∧(lo≤c∧c≤hi)∧Hid (PrevR rs z.es V c (R,B))∧Below w2.heap.size w2 wr) (fun s2 _=>(intOf s2-lo).toNat)
 case atStart=>exact ⟨s,rfl,⟨h0,h1⟩,HR.out,Below.refl _ _⟩
 case round=>
  obtain ⟨c,rfl,⟨c0,c1⟩,HC,hbr⟩:=hrel;obtain ⟨x,hx,hxR,_⟩:=HERA.out c;have hxF:=HFIT.out x (List.mem_of_getElem? hx);have hbw:Below w.heap.size w wr:=HB2.out.trans (hbr.mono HB2.out.size);have HWr:=kj (HW.out.later hbr);have hTr:=kj (HTT.out.later hbw);have hBr:=kj (HTB.out.later hbw);have hSr:=kj (HST.out.later hbw);have hHr:=kj (HHR.out.later hbw);have cT:=(HT2.out.later hbr).cell;have kT:=(HT2.out.later hbr).lt;have cP:=HWr.out.box.cell;have kP:=HWr.out.box.lt;have ce:=fun W (h:Below wr.heap.size wr W)=>CER.out W p pe cp (HWr.out.later h) (hTr.out.later h) c c0 c1 x hx;have cn:=fun W (h:Below wr.heap.size wr W)=>CFN.out W (hHr.out.later h) x hxF c (hBr.out.later h) (hSr.out.later h);obtain ⟨N,hN⟩:∃ N,Frc.prevV rs x c=N:=⟨_,rfl⟩;obtain ⟨nn,nb⟩:=N;rw [hN] at cn;obtain ⟨I,hI⟩:∃ I,I=idx (Zn.endsL rs z.es) c:=⟨_,rfl⟩;obtain ⟨LN,hLN⟩:∃ N,N=(Zn.endsL rs z.es).length:=⟨_,rfl⟩;have hH:here rs z.es c=(nn,nb):=by unfold here;rw [hx];exact hN
  obtain ⟨S,hS⟩:∃ S,S=startP rs z.es c:=⟨_,rfl⟩;unfold EraV.cells at ce cn
  try dsimp only at ce cn cP
  rw [← hI] at ce;rw [← hLN] at cP;have hss:=HSTART.out c;rw [← hS, ←hI] at hss;have CEE:=kj ce;have CNN:=kj cn;have HI:=kj hI;have HLN:=kj hLN;have HH:=kj hH;have HS:=kj hS;have HSS:=kj hss;clear ce cn hx hN hI hLN hH hS hbw hss
  go_upto_region 5 with (go_at_call 53;(with_reducible refine (CEE.out _ ?_).mono ?_);(· exact bcq);rintro e w3 ⟨rfl,hb3⟩;obtain ⟨_,_,_⟩:=bcs hb3 (w.heap.size);obtain ⟨_,_,_⟩:=bcs hb3 (p))
  have hb3':Below wr.heap.size wr w3:=bcq;have hret:∀ W,Below wr.heap.size wr W→Below w.heap.size w W:=fun W h=>HB2.out.trans ((bt hbr h).mono HB2.out.size);have HRET:=kj hret;clear hret
  by_cases hI0:0<I
  ·obtain ⟨hs1,hs2,hs3⟩:=HSS.out.2.2 hI0;have hs4:=HSS.out.2.1 c0;obtain ⟨I',rfl⟩:∃ I',I=I'+1:=⟨I-1,by omega⟩;rw [Nat.add_sub_cancel] at hs3;have hil:I'<LN:=by rw [HLN.out];exact (List.getElem?_eq_some_iff.1 hs3).1
   have hil2:I'<1000:=by have h:=HLB.out;rw [← HLN.out] at h;omega
   obtain ⟨pp,cc,epp,hpe⟩:=HWr.out.ends.pkI;cases epp;obtain ⟨b,off,rfl,hb,c9⟩:=hpe I' S hs3;replace c9:=(hb3'.cell (p:=⟨b,off+I',none⟩) hb).trans c9;have qz:(((I':Int)+1)==0)=false:=by rw [beq_eq_false_iff_ne];omega
   have hbl:b<w3.heap.size:=Nat.lt_of_lt_of_le hb hb3'.size;clear hs3 hpe;have HI0:=kj (show 0<idx (Zn.endsL rs z.es) c by rw [← HI.out];omega);have ct:=fun W (h:Below wr.heap.size wr W)=>COT.out W p _ _ (HWr.out.later h) (hTr.out.later h) (hBr.out.later h) (S-1) (by omega) (by omega);have HSB:=kj (show lo<S∧S≤hi∧S≤c by omega);unfold lo at hs1;unfold hi at hs2
   by_cases hh:nb=true∧S<nn
   ·obtain ⟨rfl,hh⟩:=hh;have hr:=prev_here HC.out (by rw [HH.out]) (by rw [HH.out, ←HS.out];exact hh);rw [HH.out] at hr;obtain ⟨rfl,rfl⟩:=Prod.mk.inj hr;clear hr ct
    go_wp2_with (go_at_call 56;(with_reducible refine (CNN.out _ ?_).mono ?_);(· exact bcq);rintro e w4 ⟨rfl,hb4⟩;obtain ⟨hc4,hf4⟩:=bcell hb4)
    go_ret2;exact ⟨rfl,HRET.out _ bcq⟩
   ·have hno:(here rs z.es c).2=true→(here rs z.es c).1≤startP rs z.es c:=by
     rw [HH.out, ←HS.out];intro h;exact Int.not_lt.1 fun h'=>hh ⟨h,h'⟩
    have HNO:=kj hno;clear hno;have hcond:nb=false∨(nb=true∧nn≤S):=by
     cases nb
     ·exact .inl rfl
     ·exact .inr ⟨rfl,Int.not_lt.1 fun h=>hh ⟨rfl,h⟩⟩
    clear hh
    by_cases hv:VV rs z.es (S-1)=V
    ·rw [decide_eq_true hv] at ct;have HG:=kj (prev_go HC.out HNO.out HI0.out (by rw [← HS.out];exact hv));have CT:=kj ct;clear ct hv;rcases hcond with rfl|⟨rfl,hle⟩
     all_goals
      go_wp2_with (first
       |(go_at_call 56;(with_reducible refine (CNN.out _ ?_).mono ?_);(· exact bcq);rintro e w4 ⟨rfl,hb4⟩;obtain ⟨hc4_0,hf4_0,hz4_0⟩:=bcs hb4 (p))
       |(go_at_call 55;(with_reducible refine (CT.out _ ?_).mono ?_);(· exact bcq);rintro e w5 ⟨rfl,hb5⟩;obtain ⟨hc5,hf5⟩:=bcell hb5))
      go_roundw
      case rel=>exact ⟨S-1,rfl,⟨by have:=HSB.out;omega,by have:=HSB.out;omega⟩,by have:=HG.out;rw [← HS.out] at this;exact this,bt hbr bcq⟩
      case measure=>have:=HSB.out;simp only [intOf];omega
    ·rw [decide_eq_false hv] at ct;have hr:=prev_hit HC.out HNO.out HI0.out (by rw [← HS.out];exact hv);rw [← HS.out] at hr;obtain ⟨rfl,rfl⟩:=Prod.mk.inj hr;have CT:=kj ct;clear ct hv hr;rcases hcond with rfl|⟨rfl,hle⟩
     all_goals
      go_wp2_with (first
       |(go_at_call 56;(with_reducible refine (CNN.out _ ?_).mono ?_);(· exact bcq);rintro e w4 ⟨rfl,hb4⟩;obtain ⟨hc4_0,hf4_0,hz4_0⟩:=bcs hb4 (p))
       |(go_at_call 55;(with_reducible refine (CT.out _ ?_).mono ?_);(· exact bcq);rintro e w5 ⟨rfl,hb5⟩;obtain ⟨hc5,hf5⟩:=bcell hb5))
      go_ret2;exact ⟨rfl,HRET.out _ bcq⟩
  ·obtain rfl:I=0:=by omega
   have hSl:S=lo:=by rw [HS.out];unfold startP;rw [← HI.out];exact if_neg (by omega)
   by_cases hh:nb=true∧S<nn
   ·obtain ⟨rfl,hh⟩:=hh;have hr:=prev_here HC.out (by rw [HH.out]) (by rw [HH.out, ←HS.out];exact hh);rw [HH.out] at hr;obtain ⟨rfl,rfl⟩:=Prod.mk.inj hr;rw [hSl] at hh;unfold lo at hh;clear hr
    go_wp2_with (go_at_call 56;(with_reducible refine (CNN.out _ ?_).mono ?_);(· exact bcq);rintro e w4 ⟨rfl,hb4⟩;obtain ⟨hc4,hf4⟩:=bcell hb4)
    go_ret2;exact ⟨rfl,HRET.out _ bcq⟩
   ·have hr:=prev_stop HC.out (by
     rw [HH.out, ←HS.out];intro h;exact Int.not_lt.1 fun h'=>hh ⟨h,h'⟩) HI.out.symm
    obtain ⟨rfl,rfl⟩:=Prod.mk.inj hr;have hcond:nb=false∨(nb=true∧nn≤ -1096193779200):=by
     cases nb
     ·exact .inl rfl
     ·exact .inr ⟨rfl,by
       have:¬S<nn:=fun h=>hh ⟨rfl,h⟩;rw [hSl] at this;unfold lo at this;omega⟩
    clear hh hr;rcases hcond with rfl|⟨rfl,hle⟩
    all_goals
     go_wp2_with (go_at_call 56;(with_reducible refine (CNN.out _ ?_).mono ?_);(· exact bcq);rintro e w4 ⟨rfl,hb4⟩;obtain ⟨hc4,hf4⟩:=bcell hb4)
     go_ret2;exact ⟨rfl,HRET.out _ bcq⟩
end Chg
end
section
open Go.RowKit NB
namespace Nw
theorem rule_len (r:RuleV):r.cells.length=11:=rfl
end Nw
end
section
open Go.RowKit NB Nxt
namespace L33
open Frc
theorem East (w:World):Calls prog 89 #[] w fun z w'=>z=.returned (.agg #[.int .i64 (-18000),.int .i64 2,.int .i64 0,.string { data:=#[85,83]},.string { data:=#[69,37,115,84]},.bool false,.int .i64 0,.int .i64 0,.int .i64 0,.int .i64 0,.int .i64 0,.int .i64 0,.int .i64 0])∧Below w.heap.size w w':=by
 go_enter func89,ntmps89;go_wp2;refine bodyPost_ret (v:=.agg #[.int .i64 (-18000),.int .i64 2,.int .i64 0,.string { data:=#[85,83]},.string { data:=#[69,37,115,84]},.bool false,.int .i64 0,.int .i64 0,.int .i64 0,.int .i64 0,.int .i64 0,.int .i64 0,.int .i64 0]) ?_ rfl ⟨rfl,?_⟩
 ·simp only [results,results89];go_simp
 ·exact bcq
end L33
end
section
open Go.RowKit NB
namespace L34
open Pt
theorem boxN {X:World} {n:Nat} {cs:Array Value} {t:TypeId} (h:X.heap.size=n):Box (X.alloc (.cells cs t)) n cs t:=by subst h;exact Box.new _ _ _
theorem of_boxG {α:Type} {k:Nat} {f:α→List Value} (hf:∀ x,(f x).length=k) {W:World} {b:Nat} {l:List α} {t:TypeId} {cs:Array Value} (m:Nat) (h:Box W b cs t) (hc:cs.toList.take (m*k)=l.flatMap f) (hm:m=l.length) (hl:l.length≤1000) (c:Nat):HoldsG k f W (.slice (some ⟨b,0,none⟩) m c) l:=by
 subst hm;refine ⟨.inr ⟨b,0,c,rfl,h.lt,fun i j x v hi hj=> ?_⟩,by omega⟩;rw [List.getElem?_map] at hi;obtain ⟨y,hy,rfl⟩:=Option.map_eq_some_iff.1 hi;rw [h.cell,Nat.zero_add];have h1:=flatG_at hf l i j y v hy hj;rw [← hc,List.getElem?_take] at h1
 split at h1
 ·simpa using h1
 ·cases h1
abbrev usC:Array Value:=#[.string ⟨#[85,83]⟩,.int .i64 2007,.int .i64 32767,.int .i64 3,.int .i64 2,.int .i64 0,.int .i64 8,.int .i64 7200,.int .i64 0,.int .i64 3600,.string ⟨#[68]⟩,.string ⟨#[85,83]⟩,.int .i64 2007,.int .i64 32767,.int .i64 11,.int .i64 2,.int .i64 0,.int .i64 1,.int .i64 7200,.int .i64 0,.int .i64 0,.string ⟨#[83]⟩]
abbrev eraA:Array Value:=#[.int .i64 3600,.int .i64 0,.int .i64 0,.string ⟨#[]⟩,.string ⟨#[88]⟩,.bool true,.int .i64 1950,.int .i64 1,.int .i64 0,.int .i64 0,.int .i64 1,.int .i64 0,.int .i64 0]
abbrev eraAB:Array Value:=#[.int .i64 3600,.int .i64 0,.int .i64 0,.string ⟨#[]⟩,.string ⟨#[88]⟩,.bool true,.int .i64 1950,.int .i64 1,.int .i64 0,.int .i64 0,.int .i64 1,.int .i64 0,.int .i64 0,.int .i64 7200,.int .i64 0,.int .i64 0,.string ⟨#[]⟩,.string ⟨#[89]⟩,.bool false,.int .i64 0,.int .i64 0,.int .i64 0,.int .i64 0,.int .i64 0,.int .i64 0,.int .i64 0]
abbrev eraE:Array Value:=#[.int .i64 (-18000),.int .i64 2,.int .i64 0,.string ⟨#[85,83]⟩,.string ⟨#[69,37,115,84]⟩,.bool false,.int .i64 0,.int .i64 0,.int .i64 0,.int .i64 0,.int .i64 0,.int .i64 0,.int .i64 0]
theorem two_h {W:World} {a b c d:Nat} {t1 t2 t3 t4:TypeId} (h1:Box W a usC t1) (h2:Box W b #[.string ⟨#[65]⟩,.slice (some ⟨c,0,none⟩) 2 2,.string ⟨#[69]⟩,.slice (some ⟨d,0,none⟩) 1 1] t2) (h3:Box W c eraAB t3) (h4:Box W d eraE t4):
 HoldsT W (two (.slice (some ⟨a,0,none⟩) 2 2) (.slice (some ⟨b,0,none⟩) 2 2) (.slice (some ⟨c,0,none⟩) 2 2) (.slice (some ⟨d,0,none⟩) 1 1)):=by
 refine ⟨⟨(of_boxG (k:=11) (f:=RuleV.cells) (fun _=>rfl) 2 (l:=[Us.us0,Us.us1]) h1 rfl rfl (by decide) 2).lies,?_,by show (2:Nat)≤_;decide⟩,of_boxG (k:=2) (f:=ZoneV.cells) (fun _=>rfl) 2 (l:=[zA (.slice (some ⟨c,0,none⟩) 2 2),zE (.slice (some ⟨d,0,none⟩) 1 1)]) h2 rfl rfl (by simp) 2,?_,⟨.inl ⟨_,_,rfl,rfl⟩,by show (0:Nat)≤_;decide⟩,fun x hx=>by cases hx⟩
 ·intro r hr;replace hr:r∈[Us.us0,Us.us1]:=hr;simp only [List.mem_cons,List.not_mem_nil,or_false] at hr;rcases hr with rfl|rfl
  ·exact Us.fit_us0
  ·exact Us.fit_us1
 ·intro z hz;rcases List.mem_cons.1 hz with rfl|hz
  ·refine ⟨by show (1:Nat)≤_;decide,⟨(of_boxG (k:=13) (f:=EraV.cells) (fun _=>rfl) 2 (l:=[eA,eB]) h3 rfl rfl (by decide) 2).lies,?_,by show (2:Nat)≤_;decide⟩⟩;intro e he;simp only [zA,List.mem_cons,List.not_mem_nil,or_false] at he;rcases he with rfl|rfl
   ·exact fit_eA
   ·exact fit_eB
  ·rcases List.mem_cons.1 hz with rfl|hz
   ·refine ⟨by show (1:Nat)≤_;decide,⟨(of_boxG (k:=13) (f:=EraV.cells) (fun _=>rfl) 1 (l:=[L33.eE]) h4 rfl rfl (by decide) 1).lies,?_,by show (1:Nat)≤_;decide⟩⟩;intro e he;simp only [zE,List.mem_cons,List.not_mem_nil,or_false] at he;subst he;exact L33.fit_eE
   ·cases hz
theorem ok_two (rv zv va ve:Value):Ok (two rv zv va ve) where
 good:=good rv zv va ve
 lets:=by
  intro x hx;simp only [two,List.mem_cons,List.not_mem_nil,or_false] at hx;rcases hx with rfl|rfl<;>decide
 rn:=by show (2:Nat)≤_;decide
 zn:=by show (2:Nat)≤_;decide
 en:=by
  intro z hz;rcases List.mem_cons.1 hz with rfl|hz
  ·show (2:Nat)≤_;decide
  ·rcases List.mem_cons.1 hz with rfl|hz
   ·show (1:Nat)≤_;decide
   ·cases hz
def TwoPost (w:World) (e:Ending) (w':World):Prop:=∃ a b c d:Nat,e=.returned (.agg #[.slice (some ⟨a,0,none⟩) 2 2,.slice (some ⟨b,0,none⟩) 2 2,.slice none 0 0])∧HoldsT w' (two (.slice (some ⟨a,0,none⟩) 2 2) (.slice (some ⟨b,0,none⟩) 2 2) (.slice (some ⟨c,0,none⟩) 2 2) (.slice (some ⟨d,0,none⟩) 1 1))∧Below w.heap.size w w'
set_option maxRecDepth 100000 in
set_option maxHeartbeats 6400000 in
theorem Two (w:World):Calls prog 47 #[] w (TwoPost w):=by
 have cu:=fun W=>(Us.Us W).mono (fun e w' (h:_∧_)=>(⟨h.1,by rw [h.2];exact ⟨Box.new W usC 57,ba (Below.refl _ W)⟩⟩:e=.returned (.slice (some ⟨W.heap.size,0,none⟩) 2 2)∧Box w' W.heap.size usC 57∧Below W.heap.size W w'));have ce:=L33.East;have CU:=kj cu;have CE:=kj ce;clear cu ce;go_enter func47,ntmps47
 go_upto_region 1 with fail
 go_upto_region 2 with fail
 obtain ⟨w1,hw1⟩:∃ V,V=(w.alloc (.cells #[.slice none 0 0,.slice none 0 0,.slice none 0 0] 26)).alloc (.cells eraA 53):=⟨_,rfl⟩;have b0:Box w1 w.heap.size #[.slice none 0 0,.slice none 0 0,.slice none 0 0] 26:=by rw [hw1];exact (Box.new w _ _).old
 have b1:Box w1 (w.heap.size+1) eraA 53:=by
  have:=(Box.new (w.alloc (.cells #[.slice none 0 0,.slice none 0 0,.slice none 0 0] 26)) eraA 53);rw [World.size_alloc] at this;rw [hw1];exact this
 have hB1:Below w.heap.size w w1:=by rw [hw1];exact bcq
 rw [← hw1];clear hw1;have s1:=b0.lt;have s2:=b1.lt;have HB1:=kj hB1;have HR:=kj (fun (V:World) (h:Below w1.heap.size w1 V)=>(⟨(b0.later h).cell,(b0.later h).free,(b0.later h).lt⟩:(∀ o,V.cell? ⟨w.heap.size,o,none⟩=(#[.slice none 0 0,.slice none 0 0,.slice none 0 0]:Array Value)[o]?)∧(∀ o,V.frozen? ⟨w.heap.size,o,none⟩=false)∧w.heap.size<V.heap.size));have HS:=kj (fun (V:World) (h:Below w1.heap.size w1 V)=>(b1.later h).cell);have k1:=b0.cell;have f1:=b0.free;have c1:=b1.cell;clear b0 hB1
 go_region_held3 (fun w'=>∀ o,w'.cell? ⟨w.heap.size+1,o,none⟩=(#[.int .i64 3600,.int .i64 0,.int .i64 0,.string ⟨#[]⟩,.string ⟨#[88]⟩,.bool true,.int .i64 1950,.int .i64 1,.int .i64 0,.int .i64 0,.int .i64 1,.int .i64 0,.int .i64 0]:Array Value)[o]?) ((first|(refine HS.out _ ?_;(repeat (first|(with_reducible exact Below.refl _ _)|(with_reducible assumption)|(with_reducible refine ba ?_)|(with_reducible refine bd ?_)|(with_reducible refine bdn ?_ _)|(with_reducible refine bset ?_ (by first|exact Nat.le_refl _|omega|(simp;done)|(simp;omega)))|(with_reducible refine bt ?_ (by with_reducible assumption))));done)|(refine Box.cell (t:=53) ?_;exact bxq))) (first
  |(go_at_call 88;(with_reducible refine (CU.out _).mono ?_);rintro e w5 ⟨rfl,hbx5,hb5⟩;have hB5:Below w1.heap.size w1 w5:=bcq;have HX5:=kj hbx5;obtain ⟨k5,f5,s5⟩:=HR.out w5 hB5;have s5b:w.heap.size<w5.heap.size+1:=(by omega);have s5c:w.heap.size<w5.heap.size+1+1:=(by omega);have s5d:w.heap.size≠w5.heap.size:=(by omega);have s5e:w.heap.size≠w5.heap.size+1:=(by omega);have s5f:w.heap.size≠w5.heap.size+1+1:=(by omega);clear hbx5)
  |(go_at_call 89;(with_reducible refine (CE.out _).mono ?_);rintro e w6 ⟨rfl,hb6⟩;have hB6:Below w1.heap.size w1 w6:=bcq;obtain ⟨k6,f6,s6⟩:=HR.out w6 hB6;have s6b:w.heap.size<w6.heap.size+1:=(by omega);have s6c:w.heap.size<w6.heap.size+1+1:=(by omega);have s6d:w.heap.size≠w6.heap.size:=(by omega);have s6e:w.heap.size≠w6.heap.size+1:=(by omega);have s6f:w.heap.size≠w6.heap.size+1+1:=(by omega)))
 ·have hx5:=HX5.out
  try simp only [World.size_drew] at hx5
  have HE6:=kj (bt HB1.out hB6);clear hB6 hB5;go_wp2;refine bodyPost_ret (v:=.agg #[.slice (some ⟨w1.heap.size,0,none⟩) 2 2,.slice (some ⟨w6.heap.size+1,0,none⟩) 2 2,.slice none 0 0]) ?_ rfl ⟨w1.heap.size,w6.heap.size+1,w5.heap.size,w6.heap.size,rfl,two_h (t1:=57) (t2:=66) (t3:=53) (t4:=53) ?_ ?_ ?_ ?_,?_⟩
  ·simp only [results,results47];go_simp
  ·repeat (first|(with_reducible assumption)|(with_reducible refine boxN (by first|rfl|(simp;done)))|(with_reducible refine Box.old ?_)|(with_reducible refine Box.drew ?_)|(with_reducible refine Box.other ?_ (by omega))|(with_reducible refine Box.later ?_ (by with_reducible assumption)))
  ·repeat (first|(with_reducible assumption)|(with_reducible refine boxN (by first|rfl|(simp;done)))|(with_reducible refine Box.old ?_)|(with_reducible refine Box.drew ?_)|(with_reducible refine Box.other ?_ (by omega))|(with_reducible refine Box.later ?_ (by with_reducible assumption)))
  ·repeat (first|(with_reducible assumption)|(with_reducible refine boxN (by first|rfl|(simp;done)))|(with_reducible refine Box.old ?_)|(with_reducible refine Box.drew ?_)|(with_reducible refine Box.other ?_ (by omega))|(with_reducible refine Box.later ?_ (by with_reducible assumption)))
  ·repeat (first|(with_reducible assumption)|(with_reducible refine boxN (by first|rfl|(simp;done)))|(with_reducible refine Box.old ?_)|(with_reducible refine Box.drew ?_)|(with_reducible refine Box.other ?_ (by omega))|(with_reducible refine Box.later ?_ (by with_reducible assumption)))
  ·have hE6:=HE6.out;clear hb5 hb6;exact bcq
 ·have hx5:=HX5.out
  try simp only [World.size_drew] at hx5
  have HE6:=kj (bt HB1.out hB6);clear hB6 hB5;go_wp2;refine bodyPost_ret (v:=.agg #[.slice (some ⟨w1.heap.size,0,none⟩) 2 2,.slice (some ⟨w6.heap.size+1+1,0,none⟩) 2 2,.slice none 0 0]) ?_ rfl ⟨w1.heap.size,w6.heap.size+1+1,w6.heap.size,w6.heap.size+1,rfl,two_h (t1:=57) (t2:=66) (t3:=53) (t4:=53) ?_ ?_ ?_ ?_,?_⟩
  ·simp only [results,results47];go_simp
  ·repeat (first|(with_reducible assumption)|(with_reducible refine boxN (by first|rfl|(simp;done)))|(with_reducible refine Box.old ?_)|(with_reducible refine Box.drew ?_)|(with_reducible refine Box.other ?_ (by omega))|(with_reducible refine Box.later ?_ (by with_reducible assumption)))
  ·repeat (first|(with_reducible assumption)|(with_reducible refine boxN (by first|rfl|(simp;done)))|(with_reducible refine Box.old ?_)|(with_reducible refine Box.drew ?_)|(with_reducible refine Box.other ?_ (by omega))|(with_reducible refine Box.later ?_ (by with_reducible assumption)))
  ·repeat (first|(with_reducible assumption)|(with_reducible refine boxN (by first|rfl|(simp;done)))|(with_reducible refine Box.old ?_)|(with_reducible refine Box.drew ?_)|(with_reducible refine Box.other ?_ (by omega))|(with_reducible refine Box.later ?_ (by with_reducible assumption)))
  ·repeat (first|(with_reducible assumption)|(with_reducible refine boxN (by first|rfl|(simp;done)))|(with_reducible refine Box.old ?_)|(with_reducible refine Box.drew ?_)|(with_reducible refine Box.other ?_ (by omega))|(with_reducible refine Box.later ?_ (by with_reducible assumption)))
  ·have hE6:=HE6.out;clear hb5 hb6;exact bcq
 ·have hx5:=HX5.out
  try simp only [World.size_drew] at hx5
  have HE6:=kj (bt HB1.out hB6);clear hB6 hB5;go_wp2;refine bodyPost_ret (v:=.agg #[.slice (some ⟨w1.heap.size,0,none⟩) 2 2,.slice (some ⟨w6.heap.size+1+1,0,none⟩) 2 2,.slice none 0 0]) ?_ rfl ⟨w1.heap.size,w6.heap.size+1+1,w6.heap.size+1,w6.heap.size,rfl,two_h (t1:=57) (t2:=66) (t3:=53) (t4:=53) ?_ ?_ ?_ ?_,?_⟩
  ·simp only [results,results47];go_simp
  ·repeat (first|(with_reducible assumption)|(with_reducible refine boxN (by first|rfl|(simp;done)))|(with_reducible refine Box.old ?_)|(with_reducible refine Box.drew ?_)|(with_reducible refine Box.other ?_ (by omega))|(with_reducible refine Box.later ?_ (by with_reducible assumption)))
  ·repeat (first|(with_reducible assumption)|(with_reducible refine boxN (by first|rfl|(simp;done)))|(with_reducible refine Box.old ?_)|(with_reducible refine Box.drew ?_)|(with_reducible refine Box.other ?_ (by omega))|(with_reducible refine Box.later ?_ (by with_reducible assumption)))
  ·repeat (first|(with_reducible assumption)|(with_reducible refine boxN (by first|rfl|(simp;done)))|(with_reducible refine Box.old ?_)|(with_reducible refine Box.drew ?_)|(with_reducible refine Box.other ?_ (by omega))|(with_reducible refine Box.later ?_ (by with_reducible assumption)))
  ·repeat (first|(with_reducible assumption)|(with_reducible refine boxN (by first|rfl|(simp;done)))|(with_reducible refine Box.old ?_)|(with_reducible refine Box.drew ?_)|(with_reducible refine Box.other ?_ (by omega))|(with_reducible refine Box.later ?_ (by with_reducible assumption)))
  ·have hE6:=HE6.out;clear hb5 hb6;exact bcq
 ·have hx5:=HX5.out
  try simp only [World.size_alloc,World.size_drew] at hx5
  have HE6:=kj (bt HB1.out hB6);clear hB6 hB5;go_wp2;refine bodyPost_ret (v:=.agg #[.slice (some ⟨w1.heap.size+1,0,none⟩) 2 2,.slice (some ⟨w6.heap.size+1,0,none⟩) 2 2,.slice none 0 0]) ?_ rfl ⟨w1.heap.size+1,w6.heap.size+1,w1.heap.size,w6.heap.size,rfl,two_h (t1:=57) (t2:=66) (t3:=53) (t4:=53) ?_ ?_ ?_ ?_,?_⟩
  ·simp only [results,results47];go_simp
  ·repeat (first|(with_reducible assumption)|(with_reducible refine boxN (by first|rfl|(simp;done)))|(with_reducible refine Box.old ?_)|(with_reducible refine Box.drew ?_)|(with_reducible refine Box.other ?_ (by omega))|(with_reducible refine Box.later ?_ (by with_reducible assumption)))
  ·repeat (first|(with_reducible assumption)|(with_reducible refine boxN (by first|rfl|(simp;done)))|(with_reducible refine Box.old ?_)|(with_reducible refine Box.drew ?_)|(with_reducible refine Box.other ?_ (by omega))|(with_reducible refine Box.later ?_ (by with_reducible assumption)))
  ·repeat (first|(with_reducible assumption)|(with_reducible refine boxN (by first|rfl|(simp;done)))|(with_reducible refine Box.old ?_)|(with_reducible refine Box.drew ?_)|(with_reducible refine Box.other ?_ (by omega))|(with_reducible refine Box.later ?_ (by with_reducible assumption)))
  ·repeat (first|(with_reducible assumption)|(with_reducible refine boxN (by first|rfl|(simp;done)))|(with_reducible refine Box.old ?_)|(with_reducible refine Box.drew ?_)|(with_reducible refine Box.other ?_ (by omega))|(with_reducible refine Box.later ?_ (by with_reducible assumption)))
  ·have hE6:=HE6.out;clear hb5 hb6;exact bcq
end L34
end
end Go.Proofs.YtgmfojgnjdpofaaGreatDoor
