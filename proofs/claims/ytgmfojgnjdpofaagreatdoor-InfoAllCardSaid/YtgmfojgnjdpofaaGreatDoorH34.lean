import Derived.Test.YtgmfojgnjdpofaaGreatDoorH33
import Derived.Test.YtgmfojgnjdpofaaGreatDoorH31
namespace Go.Proofs.YtgmfojgnjdpofaaGreatDoor
open Go.Proofs.Tryz
section
open Go.RowKit NB
namespace Pt
set_option maxRecDepth 100000 in
set_option maxHeartbeats 6400000 in
theorem ValueC {w:World} {t:TabV} (ht:HoldsT w t) (hf:Ok t) (tb:Tab w) (zone s:Int) (hs:I64 s):
 Calls prog 16 #[.agg #[t.rv,t.zv,t.lv],.int .i64 zone,.int .i64 s] w fun e w'=>e=.returned (.tuple #[.agg (valV t zone s).1.cells.toArray,.int .i64 (valV t zone s).2])∧Below w.heap.size w w':=by
 have ce:=fun (W:World) (h:HoldsT W t) (tb:Tab W)=>Era h hf tb zone s hs;have HTT:=kj ht;have HTB:=kj tb;obtain ⟨p,cap,e1⟩:=ht.r.form;obtain ⟨pz,capz,e3,hpz⟩:=ht.z.pk;obtain ⟨pl,capl,e7⟩:=ht.l.form;have hfz:=ht.zf
 by_cases hbad:∃ c:Int,c≠0∧valV t zone s=(zeroV,c)∧eraV t zone s=(0,c)
 ·obtain ⟨c,hc0,hv,he⟩:=hbad;rw [hv];rw [he] at ce;obtain ⟨rv,zv,lv,rs,zs,ls⟩:=t;dsimp only at e1 e3 e7 ce HTT ⊢;subst e1 e3 e7;generalize rs.length=n at *;generalize zs.length=nz at *;generalize ls.length=nl at *;have CE:=kj ce;clear ce hpz hfz ht hf tb hv he;have q0:(c != 0)=true:=by simpa using hc0
  go_enter func16,ntmps16
  go_wp2_with (go_at_call 50;(with_reducible refine (CE.out _ ?_ ?_).mono ?_);(· exact HTT.out.later bcq);(· exact HTB.out.later bcq);rintro e w1 ⟨rfl,hb1⟩;obtain ⟨_,_,_⟩:=bcs hb1 (w.heap.size);obtain ⟨_,_,_⟩:=bcs hb1 (w.heap.size+1))
  refine bodyPost_ret (v:=.tuple #[.agg #[.int .i64 0,.int .i64 0,.string ⟨#[]⟩],.int .i64 c]) ?_ rfl ⟨rfl,bcq⟩;simp only [results,results16];go_simp
 by_cases hin:0≤zone∧zone<t.zs.length
 case neg=>
  have:=val_none s (zone_none (t:=t) (zone:=zone) (by omega));exact absurd ⟨12,by decide,this.1,this.2⟩ hbad
 obtain ⟨k,rfl⟩:∃ k:Nat,zone=(k:Int):=⟨zone.toNat,by omega⟩;obtain ⟨z,hzz,hz⟩:=zone_some (t:=t) (zone:=(k:Int)) (by omega) (by omega);rw [Int.toNat_natCast] at hz
 by_cases ho:s<lo∨hi<s
 ·have:=val_out hzz ho;exact absurd ⟨1,by decide,this.1,this.2⟩ hbad
 have hzm:=(zone_mem hzz).2.2.2;have hg:=hf.good z hzm;have hen:=hf.en z hzm;have hii:=era_in hg s;obtain ⟨x,hx⟩:∃ x,z.es[idx (Zn.endsL t.rs z.es) s]? =some x:=⟨_,List.getElem?_eq_getElem hii⟩;have hvi:=val_in hzz (by omega) (by omega) hx;rw [hvi.2] at ce;rw [hvi.1];have hxf:x.Fit:=(hfz z hzm).e.fit x (List.mem_of_getElem? hx);have ca:=fun (W:World) (h:Holds W t.rv t.rs) (tb:Tab W)=>Frc.At h x hxf s tb hf.lets (by have:=hf.rn;omega);generalize Frc.atV t.rs x s=A at *;obtain ⟨⟨ao,av,aa⟩,aw⟩:=A;unfold ValV.cells EraV.cells at ca;dsimp only [ValV.cells] at ca ⊢;obtain ⟨I,hI⟩:∃ I,I=idx (Zn.endsL t.rs z.es) s:=⟨_,rfl⟩;rw [← hI] at ce hii hx;clear hI hbad hvi;obtain ⟨g1,o1,e4,hg1,d1⟩:=hpz k z hz;have x0:=d1 0 _ rfl;have x1:=d1 1 _ rfl;rw [Nat.add_zero] at x0;obtain ⟨g2,o2,cc,e5,hg2,d2⟩:=(hfz z hzm).e.at hx;have y0:=d2 0 _ rfl;have y1:=d2 1 _ rfl;have y2:=d2 2 _ rfl;have y3:=d2 3 _ rfl;have y4:=d2 4 _ rfl;have y5:=d2 5 _ rfl;have y6:=d2 6 _ rfl;have y7:=d2 7 _ rfl;have y8:=d2 8 _ rfl;have y9:=d2 9 _ rfl;have y10:=d2 10 _ rfl;have y11:=d2 11 _ rfl;have y12:=d2 12 _ rfl;rw [Nat.add_zero] at y0;obtain ⟨rv,zv,lv,rs,zs,ls⟩:=t;obtain ⟨nm,xv,es⟩:=z;dsimp only at e1 e3 e4 e5 e7 hin ce ca x0 x1 hii HTT ⊢;subst e1 e3 e4 e5 e7;generalize es.length=m at *;generalize rs.length=n at *;generalize zs.length=nz at *;generalize ls.length=nl at *;have CE:=kj ce;have CA:=kj ca;have hhr:=kj ht.r;clear ce ca hpz hfz ht hf tb hz hzz hzm d1 d2 hg hen hx ho;have q3:k<nz:=by omega
 clear hin;go_enter func16,ntmps16
 go_upto_region 1 with fail
 obtain ⟨w1,hw1⟩:∃ V,V=w.alloc (.cells #[.slice p n cap,.slice (some ⟨g1,o1,none⟩) nz capz,.slice pl nl capl] 26):=⟨_,rfl⟩;have b1:Box w1 w.heap.size #[.slice p n cap,.slice (some ⟨g1,o1,none⟩) nz capz,.slice pl nl capl] 26:=by rw [hw1];exact Box.new _ _ _
 have hB1:Below w.heap.size w w1:=by rw [hw1];exact bcq
 have hR:w1.heap.size=w.heap.size+1:=by rw [hw1];simp
 rw [← hw1];clear hw1;have HS:=kj (fun (V:World) (h:Below w1.heap.size w1 V)=>(⟨(b1.later h).cell,((hB1.trans (h.mono hB1.size)).cell (p:=⟨g1,o1+k*2,none⟩) hg1).trans x0,((hB1.trans (h.mono hB1.size)).cell (p:=⟨g1,o1+k*2+1,none⟩) hg1).trans x1,((hB1.trans (h.mono hB1.size)).cell (p:=⟨g2,o2+I*13,none⟩) hg2).trans y0,((hB1.trans (h.mono hB1.size)).cell (p:=⟨g2,o2+I*13+1,none⟩) hg2).trans y1,((hB1.trans (h.mono hB1.size)).cell (p:=⟨g2,o2+I*13+2,none⟩) hg2).trans y2,((hB1.trans (h.mono hB1.size)).cell (p:=⟨g2,o2+I*13+3,none⟩) hg2).trans y3,((hB1.trans (h.mono hB1.size)).cell (p:=⟨g2,o2+I*13+4,none⟩) hg2).trans y4,((hB1.trans (h.mono hB1.size)).cell (p:=⟨g2,o2+I*13+5,none⟩) hg2).trans y5,((hB1.trans (h.mono hB1.size)).cell (p:=⟨g2,o2+I*13+6,none⟩) hg2).trans y6,((hB1.trans (h.mono hB1.size)).cell (p:=⟨g2,o2+I*13+7,none⟩) hg2).trans y7,((hB1.trans (h.mono hB1.size)).cell (p:=⟨g2,o2+I*13+8,none⟩) hg2).trans y8,((hB1.trans (h.mono hB1.size)).cell (p:=⟨g2,o2+I*13+9,none⟩) hg2).trans y9,((hB1.trans (h.mono hB1.size)).cell (p:=⟨g2,o2+I*13+10,none⟩) hg2).trans y10,((hB1.trans (h.mono hB1.size)).cell (p:=⟨g2,o2+I*13+11,none⟩) hg2).trans y11,((hB1.trans (h.mono hB1.size)).cell (p:=⟨g2,o2+I*13+12,none⟩) hg2).trans y12⟩:(∀ j,V.cell? ⟨w.heap.size,j,none⟩=(#[.slice p n cap,.slice (some ⟨g1,o1,none⟩) nz capz,.slice pl nl capl]:Array Value)[j]?)∧V.cell? ⟨g1,o1+k*2,none⟩=some (.string nm)∧V.cell? ⟨g1,o1+k*2+1,none⟩=some (.slice (some ⟨g2,o2,none⟩) m cc)∧V.cell? ⟨g2,o2+I*13,none⟩=some (.int .i64 x.off)∧V.cell? ⟨g2,o2+I*13+1,none⟩=some (.int .i64 x.kind)∧V.cell? ⟨g2,o2+I*13+2,none⟩=some (.int .i64 x.save)∧V.cell? ⟨g2,o2+I*13+3,none⟩=some (.string x.rules)∧V.cell? ⟨g2,o2+I*13+4,none⟩=some (.string x.format)∧V.cell? ⟨g2,o2+I*13+5,none⟩=some (.bool x.u.has)∧V.cell? ⟨g2,o2+I*13+6,none⟩=some (.int .i64 x.u.year)∧V.cell? ⟨g2,o2+I*13+7,none⟩=some (.int .i64 x.u.month)∧V.cell? ⟨g2,o2+I*13+8,none⟩=some (.int .i64 x.u.kind)∧V.cell? ⟨g2,o2+I*13+9,none⟩=some (.int .i64 x.u.week)∧V.cell? ⟨g2,o2+I*13+10,none⟩=some (.int .i64 x.u.day)∧V.cell? ⟨g2,o2+I*13+11,none⟩=some (.int .i64 x.u.sec)∧V.cell? ⟨g2,o2+I*13+12,none⟩=some (.int .i64 x.u.base)));have HB1:=kj hB1;clear x0 x1 hB1 y0 y1 y2 y3 y4 y5 y6 y7 y8 y9 y10 y11 y12;obtain ⟨w2,hw2⟩:∃ V,V=w1.alloc (.cells #[.int .i64 0,.int .i64 0,.string ⟨#[]⟩] 30):=⟨_,rfl⟩;have b2:Box w2 (w.heap.size+1) #[.int .i64 0,.int .i64 0,.string ⟨#[]⟩] 30:=by rw [hw2, ←hR];exact Box.new _ _ _
 have hB2:Below w1.heap.size w1 w2:=by rw [hw2];exact bcq
 rw [← hw2];clear hw2 b1;have b2c:=b2.cell;obtain ⟨c1,_⟩:=HS.out w2 hB2
 go_upto_region 2 with (go_at_call 50;(with_reducible refine (CE.out _ ?_ ?_).mono ?_);(· exact HTT.out.later (HB1.out.trans (hB2.mono HB1.out.size)));(· exact HTB.out.later (HB1.out.trans (hB2.mono HB1.out.size)));rintro e w3 ⟨rfl,hb3⟩)
 have hB3:Below w1.heap.size w1 w3:=bcq;have b3:=b2.later hb3;have hbn:w1.heap.size<w3.heap.size:=by have:=b3.lt;omega
 clear b2 c1 b2c hB2 hb3;have SS:=HS.out w3 hB3;obtain ⟨c1,z0,z1,y0,y1,y2,y3,y4,y5,y6,y7,y8,y9,y10,y11,y12⟩:=SS
 go_upto_region 4 with fail
 have HB3:=kj b3;clear b3
 go_region_held3 (fun w'=>(∀ j,w'.cell? ⟨w.heap.size,j,none⟩=(#[.slice p n cap,.slice (some ⟨g1,o1,none⟩) nz capz,.slice pl nl capl]:Array Value)[j]?)∧w'.cell? ⟨g1,o1+k*2,none⟩=some (.string nm)∧w'.cell? ⟨g1,o1+k*2+1,none⟩=some (.slice (some ⟨g2,o2,none⟩) m cc)∧w'.cell? ⟨g2,o2+I*13,none⟩=some (.int .i64 x.off)∧w'.cell? ⟨g2,o2+I*13+1,none⟩=some (.int .i64 x.kind)∧w'.cell? ⟨g2,o2+I*13+2,none⟩=some (.int .i64 x.save)∧w'.cell? ⟨g2,o2+I*13+3,none⟩=some (.string x.rules)∧w'.cell? ⟨g2,o2+I*13+4,none⟩=some (.string x.format)∧w'.cell? ⟨g2,o2+I*13+5,none⟩=some (.bool x.u.has)∧w'.cell? ⟨g2,o2+I*13+6,none⟩=some (.int .i64 x.u.year)∧w'.cell? ⟨g2,o2+I*13+7,none⟩=some (.int .i64 x.u.month)∧w'.cell? ⟨g2,o2+I*13+8,none⟩=some (.int .i64 x.u.kind)∧w'.cell? ⟨g2,o2+I*13+9,none⟩=some (.int .i64 x.u.week)∧w'.cell? ⟨g2,o2+I*13+10,none⟩=some (.int .i64 x.u.day)∧w'.cell? ⟨g2,o2+I*13+11,none⟩=some (.int .i64 x.u.sec)∧w'.cell? ⟨g2,o2+I*13+12,none⟩=some (.int .i64 x.u.base)) ((refine HS.out _ ?_;exact bcq)) (first
  |(go_at_call 51;(with_reducible refine (CA.out _ ?_ ?_).mono ?_);(· exact hhr.out.later (HB1.out.trans (Below.mono bcq HB1.out.size)));(· exact HTB.out.later (HB1.out.trans (Below.mono bcq HB1.out.size)));rintro e w4 ⟨rfl,hb4⟩;have b4:=HB3.out.later (show Below w3.heap.size w3 w4 from bcq);have b4c:=b4.cell;have b4f:=b4.free;have b4l:=b4.lt))
 have hB4:Below w1.heap.size w1 w4:=bcq;have hE:=HB1.out.trans ((bset (bset (bset hB4 (n:=w.heap.size+1) (o:=0) (v:=.int .i64 ao) (by omega)) (n:=w.heap.size+1) (o:=1) (v:=.int .i64 av) (by omega)) (n:=w.heap.size+1) (o:=2) (v:=.string aa) (by omega)).mono HB1.out.size);have HE:=kj hE;clear hE hB4 hB3 hb4;go_wp2;refine bodyPost_ret (v:=.tuple #[.agg #[.int .i64 ao,.int .i64 av,.string aa],.int .i64 aw]) ?_ rfl ⟨rfl,HE.out⟩;simp only [results,results16];go_simp
end Pt
end
section
open Go.RowKit NB
namespace Chg
open Pt
theorem val_VV {t:TabV} (ok:Ok t) {zone s:Int} {z:ZoneV} (hz:zoneAt t zone=some z) (h0:lo≤s) (h1:s≤hi):valV t zone s=(VV t.rs z.es s,0):=by
 obtain ⟨e,he,hR,hv⟩:=era_at (ok.good z (zone_mem hz).2.2.2) s;rw [(val_in hz h0 h1 he).1,hv,L33.at_right hR]
structure Walk (w:World) (p:Nat) (t:TabV) (k:Nat) (L:List Int) (v:ValV) (pe:Option Addr) (cp:Nat):Prop where
 box:Box w p #[t.rv,t.zv,t.lv,.int .i64 k,.slice pe L.length cp,.int .i64 v.off,.int .i64 v.save,.string v.abbr] 100
 ends:HoldsG 1 intC w (.slice pe L.length cp) L
theorem Walk.later {w w':World} {p:Nat} {t:TabV} {k:Nat} {L:List Int} {v:ValV} {pe:Option Addr} {cp:Nat} (h:Walk w p t k L v pe cp) (hb:Below w.heap.size w w'):Walk w' p t k L v pe cp:=⟨h.box.later hb,h.ends.later hb⟩
set_option maxRecDepth 100000 in
set_option maxHeartbeats 3200000 in
theorem FromNot {w:World} {t:TabV} (ht:HoldsT w t) (ok:Ok t) (tb:Tab w) (zone s:Int) (hs:I64 s) (hb:(valV t zone s).2≠0):
 Calls prog 52 #[.agg #[t.rv,t.zv,t.lv],.int .i64 zone,.int .i64 s] w fun e w'=>e=.returned (.tuple #[.pointer none,.bool false])∧Below w.heap.size w w':=by
 have cv:=fun W (h:HoldsT W t) (tb:Tab W)=>ValueC h ok tb zone s hs;have HTT:=kj ht;have HTB:=kj tb;obtain ⟨p,cap,e1⟩:=ht.r.form;obtain ⟨pz,capz,e3⟩:=ht.z.form;obtain ⟨pl,capl,e7⟩:=ht.l.form;generalize valV t zone s=V at *;obtain ⟨⟨vo,vs,va⟩,c⟩:=V;unfold ValV.cells at cv;obtain ⟨rv,zv,lv,rs,zs,ls⟩:=t;dsimp only at e1 e3 e7 cv hb HTT ⊢;subst e1 e3 e7;generalize rs.length=n at *;generalize zs.length=nz at *;generalize ls.length=nl at *;have CV:=kj cv;have q0:(c != 0)=true:=by simpa using hb
 clear cv ht tb ok;go_enter func52,ntmps52
 go_wp2_with (go_at_call 16;(with_reducible refine (CV.out _ ?_ ?_).mono ?_);(· exact HTT.out.later bcq);(· exact HTB.out.later bcq);rintro e w1 ⟨rfl,hb1⟩;obtain ⟨_,_,_⟩:=bcs hb1 (w.heap.size))
 go_ret2;exact ⟨rfl,bcq⟩
set_option maxRecDepth 100000 in
set_option maxHeartbeats 6400000 in
theorem From {w:World} {t:TabV} (ht:HoldsT w t) (ok:Ok t) (tb:Tab w) (k:Nat) (s:Int) (hs:I64 s) {z:ZoneV} (hzz:zoneAt t (k:Int)=some z) (h0:lo≤s) (h1:s≤hi):
 Calls prog 52 #[.agg #[t.rv,t.zv,t.lv],.int .i64 k,.int .i64 s] w fun e w'=>∃ p pe cp,e=.returned (.tuple #[.pointer (some ⟨p,0,none⟩),.bool true])∧Walk w' p t k (Zn.endsL t.rs z.es) (VV t.rs z.es s) pe cp∧Below w.heap.size w w':=by
 have cv:=fun W (h:HoldsT W t) (tb:Tab W)=>ValueC h ok tb (k:Int) s hs;rw [val_VV ok hzz h0 h1] at cv;have HTT:=kj ht;have HTB:=kj tb;obtain ⟨p,cap,e1⟩:=ht.r.form;obtain ⟨pz,capz,e3,hpz⟩:=ht.z.pk;obtain ⟨pl,capl,e7⟩:=ht.l.form;have hfz:=ht.zf;obtain ⟨_,hkz,hz,hzm⟩:=zone_mem hzz;rw [Int.toNat_natCast] at hz;have ce:=fun (W:World) (h:HoldsT W t) (tb:Tab W)=>ends_c h ok tb hzm;obtain ⟨g1,o1,e4,hg1,d1⟩:=hpz k z hz;have x0:=d1 0 _ rfl;have x1:=d1 1 _ rfl;rw [Nat.add_zero] at x0;obtain ⟨pp,cc,e5⟩:=(hfz z hzm).e.form;generalize VV t.rs z.es s=V at *;generalize Zn.endsL t.rs z.es=L at *;obtain ⟨rv,zv,lv,rs,zs,ls⟩:=t;obtain ⟨nm,xv,es⟩:=z;obtain ⟨vo,vs,va⟩:=V;unfold ValV.cells at cv;dsimp only at e1 e3 e4 e5 e7 hkz ce cv x0 x1 HTT ⊢;subst e1 e3 e4 e5 e7;generalize es.length=m at *;generalize hn:rs.length=n at *;generalize hnz:zs.length=nz at *;generalize hnl:ls.length=nl at *;have CE:=kj ce;have CV:=kj cv;clear ce cv hpz hfz ht ok tb hz hzz hzm d1 hn hnz hnl;have q3:k<nz:=by omega
 go_enter func52,ntmps52
 go_upto_region 1 with fail
 obtain ⟨w1,hw1⟩:∃ V,V=w.alloc (.cells #[.slice p n cap,.slice (some ⟨g1,o1,none⟩) nz capz,.slice pl nl capl] 26):=⟨_,rfl⟩;have b1:Box w1 w.heap.size #[.slice p n cap,.slice (some ⟨g1,o1,none⟩) nz capz,.slice pl nl capl] 26:=by rw [hw1];exact Box.new _ _ _
 have hB1:Below w.heap.size w w1:=by rw [hw1];exact bcq
 rw [← hw1];clear hw1;have HS:=kj (fun (V:World) (h:Below w1.heap.size w1 V)=>(⟨(b1.later h).cell,((hB1.trans (h.mono hB1.size)).cell (p:=⟨g1,o1+k*2,none⟩) hg1).trans x0,((hB1.trans (h.mono hB1.size)).cell (p:=⟨g1,o1+k*2+1,none⟩) hg1).trans x1⟩:(∀ j,V.cell? ⟨w.heap.size,j,none⟩=(#[.slice p n cap,.slice (some ⟨g1,o1,none⟩) nz capz,.slice pl nl capl]:Array Value)[j]?)∧V.cell? ⟨g1,o1+k*2,none⟩=some (.string nm)∧V.cell? ⟨g1,o1+k*2+1,none⟩=some (.slice pp m cc)));have HB1:=kj hB1;clear x0 x1 hB1;obtain ⟨c1,_⟩:=HS.out w1 (Below.refl _ _)
 go_upto_region 2 with (go_at_call 16;(with_reducible refine (CV.out _ ?_ ?_).mono ?_);(· exact HTT.out.later HB1.out);(· exact HTB.out.later HB1.out);rintro e w2 ⟨rfl,hb2⟩)
 obtain ⟨w3,hw3⟩:∃ V,V=w2.alloc (.cells #[.int .i64 vo,.int .i64 vs,.string va] 30):=⟨_,rfl⟩;have b3:Box w3 w2.heap.size #[.int .i64 vo,.int .i64 vs,.string va] 30:=by rw [hw3];exact Box.new _ _ _
 have hB3:Below w1.heap.size w1 w3:=by rw [hw3];exact bcq
 rw [← hw3];clear hw3 c1 hb2 b1;obtain ⟨c3,y0,y1⟩:=HS.out w3 hB3;have HB3:=kj b3;clear b3
 go_upto_region 4 with fail
 go_region_held3 (fun w'=>(∀ j,w'.cell? ⟨w.heap.size,j,none⟩=(#[.slice p n cap,.slice (some ⟨g1,o1,none⟩) nz capz,.slice pl nl capl]:Array Value)[j]?)∧w'.cell? ⟨g1,o1+k*2,none⟩=some (.string nm)∧w'.cell? ⟨g1,o1+k*2+1,none⟩=some (.slice pp m cc)) ((refine HS.out _ ?_;exact bcq)) (first
  |(go_at_call 94;(with_reducible refine (CE.out _ ?_ ?_).mono ?_);(· exact HTT.out.later (HB1.out.trans (Below.mono bcq HB1.out.size)));(· exact HTB.out.later (HB1.out.trans (Below.mono bcq HB1.out.size)));rintro e w4 ⟨v4,rfl,hl4,hb4⟩;have b4c:=(HB3.out.later (show Below w3.heap.size w3 w4 from bcq)).cell;have HL4:=kj hl4;clear hl4))
 have hB4:Below w1.heap.size w1 w4:=bcq;have HB4:=kj (HB1.out.trans (hB4.mono HB1.out.size));obtain ⟨pe,cp,rfl⟩:=HL4.out.form;clear hB4 hB3 hb4;go_wp2;go_ret2;exact ⟨w4.heap.size,pe,cp,rfl,⟨Box.new _ _ _,HL4.out.later (ba (Below.refl _ _))⟩,ba HB4.out⟩
end Chg
end
section
open Go.RowKit NB
namespace Chg
open Pt
set_option maxRecDepth 100000 in
set_option maxHeartbeats 6400000 in
theorem EraC {w:World} {t:TabV} {p k:Nat} {v:ValV} {pe:Option Addr} {cp:Nat} {z:ZoneV} (hW:Walk w p t k (Zn.endsL t.rs z.es) v pe cp) (ht:HoldsT w t) (ok:Ok t) (hzz:zoneAt t (k:Int)=some z) (s:Int) (h0:lo≤s) (h1:s≤hi) {x:EraV} (hx:z.es[idx (Zn.endsL t.rs z.es) s]? =some x):
 Calls prog 53 #[.pointer (some ⟨p,0,none⟩),.int .i64 s] w fun e w'=>e=.returned (.tuple #[.agg x.cells.toArray,.int .i64 (idx (Zn.endsL t.rs z.es) s)])∧Below w.heap.size w w':=by
 obtain ⟨_,hkz,hz,hzm⟩:=zone_mem hzz;rw [Int.toNat_natCast] at hz;have hg:=ok.good z hzm;have hen:=ok.en z hzm;have hii:=era_in hg s;have cs:=fun W (h:HoldsG 1 intC W (.slice pe (Zn.endsL t.rs z.es).length cp) (Zn.endsL t.rs z.es))=>search h (by have:=Unt.ends_len (l:=t.rs) hg.zone;omega) hg.sort s;have hend:=hW.ends;have hbx:=hW.box;obtain ⟨pz,capz,e3,hpz⟩:=ht.z.pk;obtain ⟨g1,o1,e4,hg1,d1⟩:=hpz k z hz;have x0:=d1 0 _ rfl;have x1:=d1 1 _ rfl;rw [Nat.add_zero] at x0;obtain ⟨g2,o2,cc,e5,hg2,d2⟩:=(ht.zf z hzm).e.at hx;have y0:=d2 0 _ rfl;have y1:=d2 1 _ rfl;have y2:=d2 2 _ rfl;have y3:=d2 3 _ rfl;have y4:=d2 4 _ rfl;have y5:=d2 5 _ rfl;have y6:=d2 6 _ rfl;have y7:=d2 7 _ rfl;have y8:=d2 8 _ rfl;have y9:=d2 9 _ rfl;have y10:=d2 10 _ rfl;have y11:=d2 11 _ rfl;have y12:=d2 12 _ rfl;rw [Nat.add_zero] at y0;unfold EraV.cells;generalize idx (Zn.endsL t.rs z.es) s=I at *;generalize Zn.endsL t.rs z.es=L at *;obtain ⟨pr,capr,e1⟩:=ht.r.form;obtain ⟨pl,capl,e7⟩:=ht.l.form;obtain ⟨rv,zv,lv,rs,zs,ls⟩:=t;obtain ⟨nm,xv,es⟩:=z;dsimp only at e1 e3 e4 e5 e7 hkz x0 x1 hii hbx ⊢;subst e1 e3 e4 e5 e7;generalize es.length=m at *;generalize rs.length=n at *;generalize hnz:zs.length=nz at *;generalize ls.length=nl at *;generalize L.length=N at *;have CS:=kj cs;have HEN:=kj hend;clear cs hend hW hpz ht ok hz hzz hzm d1 d2 hnz hg hx;have q3:k<nz:=by omega
 unfold lo at h0;unfold hi at h1;have hp:=hbx.lt;go_enter func53,ntmps53
 go_upto_region 1 with fail
 obtain ⟨w1,hw1⟩:∃ V,V=w.alloc (.cells #[.int .i64 0,.int .i64 0,.int .i64 0,.string ⟨#[]⟩,.string ⟨#[]⟩,.bool false,.int .i64 0,.int .i64 0,.int .i64 0,.int .i64 0,.int .i64 0,.int .i64 0,.int .i64 0] 53):=⟨_,rfl⟩;have b1:Box w1 w.heap.size #[.int .i64 0,.int .i64 0,.int .i64 0,.string ⟨#[]⟩,.string ⟨#[]⟩,.bool false,.int .i64 0,.int .i64 0,.int .i64 0,.int .i64 0,.int .i64 0,.int .i64 0,.int .i64 0] 53:=by rw [hw1];exact Box.new _ _ _
 have hB1:Below w.heap.size w w1:=by rw [hw1];exact bcq
 rw [← hw1];clear hw1;have hE1:=kj (HEN.out.later hB1);have kb:=(hbx.later hB1).cell;replace x0:=(hB1.cell (p:=⟨g1,o1+k*2,none⟩) hg1).trans x0;replace x1:=(hB1.cell (p:=⟨g1,o1+k*2+1,none⟩) hg1).trans x1;replace y0:=(hB1.cell (p:=⟨g2,o2+I*13,none⟩) hg2).trans y0;replace y1:=(hB1.cell (p:=⟨g2,o2+I*13+1,none⟩) hg2).trans y1;replace y2:=(hB1.cell (p:=⟨g2,o2+I*13+2,none⟩) hg2).trans y2;replace y3:=(hB1.cell (p:=⟨g2,o2+I*13+3,none⟩) hg2).trans y3;replace y4:=(hB1.cell (p:=⟨g2,o2+I*13+4,none⟩) hg2).trans y4;replace y5:=(hB1.cell (p:=⟨g2,o2+I*13+5,none⟩) hg2).trans y5;replace y6:=(hB1.cell (p:=⟨g2,o2+I*13+6,none⟩) hg2).trans y6;replace y7:=(hB1.cell (p:=⟨g2,o2+I*13+7,none⟩) hg2).trans y7;replace y8:=(hB1.cell (p:=⟨g2,o2+I*13+8,none⟩) hg2).trans y8;replace y9:=(hB1.cell (p:=⟨g2,o2+I*13+9,none⟩) hg2).trans y9;replace y10:=(hB1.cell (p:=⟨g2,o2+I*13+10,none⟩) hg2).trans y10;replace y11:=(hB1.cell (p:=⟨g2,o2+I*13+11,none⟩) hg2).trans y11;replace y12:=(hB1.cell (p:=⟨g2,o2+I*13+12,none⟩) hg2).trans y12;have k1:=b1.cell;have f1:=b1.free;have l1:=b1.lt;have HB1:=kj hB1;clear hB1 hbx b1 HEN
 go_upto_region 2 with (go_at_call 95;(with_reducible refine (CS.out _ hE1.out).mono ?_);rintro e w' ⟨⟨u,rfl⟩,rfl⟩)
 have n1:p≠w.heap.size:=by omega
 go_region
 clear f1 kb y0 y1 y2 y3 y4 y5 y6 y7 y8 y9 y10 y11 y12 x0 x1;go_wp2;refine bodyPost_ret (v:=.tuple #[.agg #[.int .i64 x.off,.int .i64 x.kind,.int .i64 x.save,.string x.rules,.string x.format,.bool x.u.has,.int .i64 x.u.year,.int .i64 x.u.month,.int .i64 x.u.kind,.int .i64 x.u.week,.int .i64 x.u.day,.int .i64 x.u.sec,.int .i64 x.u.base],.int .i64 I]) ?_ rfl ⟨rfl,by have hB1:=HB1.out;exact bcq⟩;simp only [results,results53];go_simp
end Chg
end
section
open Go.RowKit NB
namespace Chg
open Pt
set_option maxRecDepth 100000 in
set_option maxHeartbeats 6400000 in
theorem OtherC {w:World} {t:TabV} {p k:Nat} {v:ValV} {pe:Option Addr} {cp:Nat} {L:List Int} {z:ZoneV} (hW:Walk w p t k L v pe cp) (ht:HoldsT w t) (ok:Ok t) (tb:Tab w) (hzz:zoneAt t (k:Int)=some z) (s:Int) (h0:lo≤s) (h1:s≤hi):
 Calls prog 55 #[.pointer (some ⟨p,0,none⟩),.int .i64 s] w fun e w'=>e=.returned (.bool (!decide (VV t.rs z.es s=v)))∧Below w.heap.size w w':=by
 have cv:=fun W (h:HoldsT W t) (tb:Tab W)=>ValueC h ok tb (k:Int) s (by unfold I64;unfold lo at h0;unfold hi at h1;omega);rw [val_VV ok hzz h0 h1] at cv;have HTT:=kj ht;have HTB:=kj tb;have hbx:=hW.box;obtain ⟨pr,capr,e1⟩:=ht.r.form;obtain ⟨pz,capz,e3⟩:=ht.z.form;obtain ⟨pl,capl,e7⟩:=ht.l.form;generalize VV t.rs z.es s=V at *;obtain ⟨rv,zv,lv,rs,zs,ls⟩:=t;obtain ⟨ao,av,aa⟩:=V;obtain ⟨bo,bv,bq⟩:=v;unfold ValV.cells at cv;dsimp only at e1 e3 e7 cv hbx HTT ⊢;subst e1 e3 e7;generalize rs.length=n at *;generalize zs.length=nz at *;generalize ls.length=nl at *;generalize L.length=N at *;have CV:=kj cv;clear cv ht ok tb hzz hW;have hcs:(((ao==bo)=false)∨(ao=bo∧(av==bv)=false)∨(ao=bo∧av=bv∧(aa.toList==bq.toList)=false))∧decide ((⟨ao,av,aa⟩:ValV)=⟨bo,bv,bq⟩)=false∨(ao=bo∧av=bv∧aa=bq):=by
  by_cases g1:ao=bo
  ·by_cases g2:av=bv
   ·by_cases g3:aa=bq
    ·exact .inr ⟨g1,g2,g3⟩
    ·exact .inl ⟨.inr (.inr ⟨g1,g2,str_ne g3⟩),decide_eq_false (fun e=>g3 (by injection e))⟩
   ·exact .inl ⟨.inr (.inl ⟨g1,by simpa using g2⟩),decide_eq_false (fun e=>g2 (by injection e))⟩
  ·exact .inl ⟨.inl (by simpa using g1),decide_eq_false (fun e=>g1 (by injection e))⟩
 obtain ⟨D,hD⟩:∃ D:Bool,D= !decide ((⟨ao,av,aa⟩:ValV)=⟨bo,bv,bq⟩):=⟨_,rfl⟩;rw [← hD];have HD:=kj hD;have HCS:=kj hcs;clear hcs hD;have HP:=kj hbx;have kp:=hbx.cell;have hp:=hbx.lt;clear hbx;go_enter func55,ntmps55
 go_upto_region 1 with fail
 go_cut [5] (fun s5 wx=>∃ B,s5=.pointer (some ⟨B,0,none⟩)∧Box wx B #[.int .i64 ao,.int .i64 av,.string aa] 30∧Below w.heap.size w wx)
 case first=>
  go_region_held3 (fun w'=>∀ j,w'.cell? ⟨p,j,none⟩=(#[.slice pr n capr,.slice pz nz capz,.slice pl nl capl,.int .i64 k,.slice pe N cp,.int .i64 bo,.int .i64 bv,.string bq]:Array Value)[j]?) ((refine (HP.out.later ?_).cell;exact bcq)) (first
   |(go_at_call 16;(with_reducible refine (CV.out _ ?_ ?_).mono ?_);(· exact HTT.out.later bcq);(· exact HTB.out.later bcq);rintro e w1 ⟨rfl,hb1⟩;have s1:w.heap.size≤w1.heap.size:=(by have:=hb1.size;(try simp only [World.size_alloc,World.size_drew] at this);omega);obtain ⟨hcq1,hfq1⟩:=bcell hb1;(try have h1a:=fun o=>hcq1 (w.heap.size) o szq);(try have h1b:=fun o=>hfq1 (w.heap.size) o szq);clear hcq1 hfq1;(try have bq1:Box w1 w.heap.size #[.int .i64 0,.int .i64 0,.string ⟨#[]⟩] 30:=(by refine Box.later ?_ hb1;first|exact Box.new _ _ _|exact Box.drew (Box.new _ _ _)|exact Box.new w.drew _ _))))
  all_goals
   go_wp2;go_meet
   first
    |exact ⟨_,rfl,Box.new _ _ _,bcq⟩
    |exact ⟨_,rfl,bq1.set3,bcq⟩
 case rest=>
  obtain ⟨B,rfl,bB,hbc⟩:=hcut;have kB:=bB.cell;have kp2:=(HP.out.later hbc).cell;have HBC:=kj hbc;clear kp bB hbc;rcases HCS.out with ⟨hc,hd⟩|⟨rfl,rfl,rfl⟩
  ·have HDD:=kj hd;clear hd;rcases hc with g1|⟨rfl,g2⟩|⟨rfl,rfl,g3⟩
   all_goals
    go_upto_region 2 with fail
    go_quiet (fail)
    go_wp2;go_ret;exact ⟨by rw [HD.out,HDD.out];rfl,by have h:=HBC.out;exact bcq⟩
  ·have HF:=kj (show D=false by rw [HD.out];simp)
   go_upto_region 2 with fail
   go_quiet (fail)
   go_wp2;go_ret;exact ⟨by rw [HF.out];rfl,by have h:=HBC.out;exact bcq⟩
end Chg
end
end Go.Proofs.YtgmfojgnjdpofaaGreatDoor
