import Derived.Test.YtgmfojgnjdpofaaGreatDoorH31
import Derived.Test.YtgmfojgnjdpofaaGreatDoorH35
import Derived.Test.YtgmfojgnjdpofaaGreatDoorH37
import Derived.Test.YtgmfojgnjdpofaaGreatDoorH34
namespace Go.Proofs.YtgmfojgnjdpofaaGreatDoor
open Go.Proofs.Tryz
section
open Go.RowKit NB
structure InfV where
 fr:Int
 en:Int
 v:ValV
deriving DecidableEq
def InfV.cells (i:InfV):List Value:=[.int .i64 i.fr,.int .i64 i.en,.int .i64 i.v.off,.int .i64 i.v.save,.string i.v.abbr]
def InfV.wf (i:InfV):Int:=i.fr+i.v.off
def InfV.wt (i:InfV):Int:=i.en+i.v.off
def InfV.has (x:Int) (i:InfV):Bool:=decide (i.fr≤x-i.v.off)&&decide (x-i.v.off<i.en)
def zeroI:InfV:=⟨0,0,Pt.zeroV⟩
namespace Inf
open Pt Frc L33 Chg
structure Spn (l:List RuleV) (es:List EraV) (s a b:Int):Prop where
 low:lo≤a
 from':a≤s
 to':s<b
 high:b≤hi+1
 all:∀ u,a≤u→u<b→VV l es u=VV l es s
 start:a=lo∨VV l es (a-1)≠VV l es s
 stop:b=hi+1∨VV l es b≠VV l es s
def fromP (q:Int×Bool):Int:=if q.2 then q.1 else lo
def toN (r:Int×Bool):Int:=if r.2 then r.1 else hi+1
section
variable {l:List RuleV} {es:List EraV}
theorem Spn.eq {s a b c d:Int} (h:Spn l es s a b) (k:Spn l es s c d):a=c∧b=d:=by
 obtain ⟨h1,h2,h3,h4,h5,h6,h7⟩:=h;obtain ⟨k1,k2,k3,k4,k5,k6,k7⟩:=k
 constructor
 ·rcases Int.lt_trichotomy a c with hl|hl|hl
  ·rcases k6 with k6|k6
   ·omega
   ·exact absurd (h5 (c-1) (by omega) (by omega)) k6
  ·exact hl
  ·rcases h6 with h6|h6
   ·omega
   ·exact absurd (k5 (a-1) (by omega) (by omega)) h6
 ·rcases Int.lt_trichotomy b d with hl|hl|hl
  ·rcases h7 with h7|h7
   ·omega
   ·exact absurd (k5 b (by omega) (by omega)) h7
  ·exact hl
  ·rcases k7 with k7|k7
   ·omega
   ·exact absurd (h5 d (by omega) (by omega)) k7
theorem Spn.move {s u a b:Int} (h:Spn l es s a b) (h0:a≤u) (h1:u<b):Spn l es u a b:=by
 have hv:=h.all u h0 h1;refine ⟨h.low,h0,h1,h.high,fun x hx hy=>by rw [h.all x hx hy,hv],?_,?_⟩
 ·rw [hv];exact h.start
 ·rw [hv];exact h.stop
variable (hg:GoodE l es) (hc:(Chk.check l).2=0)
include hg hc
theorem spn_of {s:Int} {r q:Int×Bool} (h0:lo≤s) (h1:s≤hi) (hr:NextR l es (VV l es s) s r) (hq:PrevR l es (VV l es s) s q):Spn l es s (fromP q) (toN r):=by
 obtain ⟨n1,n2⟩:=next_spec hg hc hr h0 h1 rfl;obtain ⟨p1,p2⟩:=prev_spec hg hc hq h0 h1 rfl;obtain ⟨r1,r2⟩:=r;obtain ⟨q1,q2⟩:=q;unfold fromP toN;dsimp only at n1 n2 p1 p2 ⊢;cases r2<;>cases q2
 ·have a:=n2 rfl;have b:=p2 rfl;exact ⟨by simp,by simpa using h0,by simp;omega,by simp,fun u hu hv=>by
   by_cases hs:s≤u
   ·exact a.2 u hs (by simp at hv;omega)
   ·exact b.2 u (by simpa using hu) (by omega),.inl (by simp),.inl (by simp)⟩
 ·have a:=n2 rfl;have b:=p1 rfl;exact ⟨by simp;omega,by simpa using b.2.1,by simp;omega,by simp,fun u hu hv=>by
   by_cases hs:s≤u
   ·exact a.2 u hs (by simp at hv;omega)
   ·exact b.2.2.2 u (by simpa using hu) (by omega),.inr (by simpa using b.2.2.1),.inl (by simp)⟩
 ·have a:=n1 rfl;have b:=p2 rfl;exact ⟨by simp,by simpa using h0,by simpa using a.1,by simp;omega,fun u hu hv=>by
   by_cases hs:s≤u
   ·exact a.2.2.2 u hs (by simpa using hv)
   ·exact b.2 u (by simpa using hu) (by omega),.inl (by simp),.inr (by simpa using a.2.2.1)⟩
 ·have a:=n1 rfl;have b:=p1 rfl;exact ⟨by simp;omega,by simpa using b.2.1,by simpa using a.1,by simp;omega,fun u hu hv=>by
   by_cases hs:s≤u
   ·exact a.2.2.2 u hs (by simpa using hv)
   ·exact b.2.2.2 u (by simpa using hu) (by omega),.inr (by simpa using b.2.2.1),.inr (by simpa using a.2.2.1)⟩
theorem spn_total {s:Int} (h0:lo≤s) (h1:s≤hi):∃ a b,Spn l es s a b:=by
 obtain ⟨r,hr⟩:=next_total hg hc (VV l es s) _ s h0 h1 (Nat.le_refl _);obtain ⟨q,hq⟩:=prev_total hg hc (VV l es s) _ s h0 h1 (Nat.le_refl _);exact ⟨_,_,spn_of hg hc h0 h1 hr hq⟩
theorem spn_behind {s a b:Int} (h:Spn l es s a b) (hb:b≤hi):∃ c,Spn l es b b c∧VV l es b≠VV l es s∧Spn l es (b-1) a b∧VV l es (b-1)=VV l es s:=by
 have:=h.low;have:=h.from';have:=h.to';obtain ⟨c,d,hd⟩:=spn_total hg hc (s:=b) (by omega) hb;have hne:VV l es b≠VV l es s:=by
  rcases h.stop with hs|hs
  ·omega
  ·exact hs
 have hcb:c=b:=by
  have:=hd.from'
  by_cases hcb:c=b
  ·exact hcb
  ·have h1:=hd.all (b-1) (by omega) (by have:=hd.to';omega);have h2:=h.all (b-1) (by omega) (by omega);exact absurd (h1.symm.trans h2) hne
 subst hcb;exact ⟨d,hd,hne,h.move (by omega) (by omega),h.all (c-1) (by omega) (by omega)⟩
end
def InfT (t:TabV) (zone s:Int) (i:InfV) (why:Int):Prop:=(why=(valV t zone s).2∧why≠0∧i=zeroI)∨∃ z,zoneAt t zone=some z∧(lo≤s∧s≤hi)∧why=0∧Spn t.rs z.es s i.fr i.en∧i.v=VV t.rs z.es s
end Inf
end
section
open Go.RowKit NB
namespace Inf
open Pt Chg
theorem infT_out {t:TabV} {zone s:Int} {i:InfV} {why:Int} (h:InfT t zone s i why) (hw:why≠0):i=zeroI:=by
 rcases h with ⟨_,_,h⟩|⟨_,_,_,h,_⟩
 ·exact h
 ·exact absurd h hw
set_option maxRecDepth 100000 in
set_option maxHeartbeats 3200000 in
theorem AtNot {w:World} {t:TabV} (ht:HoldsT w t) (ok:Ok t) (tb:Tab w) (zone s:Int) (hs:I64 s) (hb:(valV t zone s).2≠0):
 Calls prog 32 #[.agg #[t.rv,t.zv,t.lv],.int .i64 zone,.int .i64 s] w fun e w'=>e=.returned (.tuple #[.agg #[.int .i64 0,.int .i64 0,.int .i64 0,.int .i64 0,.string ⟨#[]⟩],.int .i64 (valV t zone s).2])∧Below w.heap.size w w':=by
 have cv:=fun W (h:HoldsT W t) (tb:Tab W)=>ValueC h ok tb zone s hs;have HTT:=kj ht;have HTB:=kj tb;obtain ⟨p,cap,e1⟩:=ht.r.form;obtain ⟨pz,capz,e3⟩:=ht.z.form;obtain ⟨pl,capl,e7⟩:=ht.l.form;generalize valV t zone s=V at *;obtain ⟨⟨vo,vs,va⟩,c⟩:=V;unfold ValV.cells at cv;obtain ⟨rv,zv,lv,rs,zs,ls⟩:=t;dsimp only at e1 e3 e7 cv hb HTT ⊢;subst e1 e3 e7;generalize rs.length=n at *;generalize zs.length=nz at *;generalize ls.length=nl at *;have CV:=kj cv;have q0:(c != 0)=true:=by simpa using hb
 clear cv ht ok tb;go_enter func32,ntmps32
 go_wp2_with (go_at_call 16;(with_reducible refine (CV.out _ ?_ ?_).mono ?_);(· exact HTT.out.later bcq);(· exact HTB.out.later bcq);rintro e w1 ⟨rfl,hb1⟩;obtain ⟨_,_,_⟩:=bcs hb1 (w.heap.size);obtain ⟨_,_,_⟩:=bcs hb1 (w.heap.size+1))
 refine bodyPost_ret (v:=.tuple #[.agg #[.int .i64 0,.int .i64 0,.int .i64 0,.int .i64 0,.string ⟨#[]⟩],.int .i64 c]) ?_ rfl ⟨rfl,bcq⟩;simp only [results,results32];go_simp
set_option maxRecDepth 100000 in
set_option maxHeartbeats 6400000 in
theorem AtC {w:World} {t:TabV} (ht:HoldsT w t) (ok:Ok t) (tb:Tab w) (hst:Sta w) (hc:(Chk.check t.rs).2=0) (k:Nat) (s:Int) (hs:I64 s) {z:ZoneV} (hzz:zoneAt t (k:Int)=some z) (h0:lo≤s) (h1:s≤hi) {a b:Int} (hsp:Spn t.rs z.es s a b):
 Calls prog 32 #[.agg #[t.rv,t.zv,t.lv],.int .i64 k,.int .i64 s] w fun e w'=>e=.returned (.tuple #[.agg #[.int .i64 a,.int .i64 b,.int .i64 (VV t.rs z.es s).off,.int .i64 (VV t.rs z.es s).save,.string (VV t.rs z.es s).abbr],.int .i64 0])∧Below w.heap.size w w':=by
 have hg:=ok.good z (zone_mem hzz).2.2.2;obtain ⟨r,hr⟩:=next_total hg hc (VV t.rs z.es s) _ s h0 h1 (Nat.le_refl _);obtain ⟨q,hq⟩:=prev_total hg hc (VV t.rs z.es s) _ s h0 h1 (Nat.le_refl _);obtain ⟨ea,eb⟩:=(spn_of hg hc h0 h1 hr hq).eq hsp;have cv:=fun W (h:HoldsT W t) (tb:Tab W)=>ValueC h ok tb (k:Int) s hs;rw [val_VV ok hzz h0 h1] at cv;have cn:=fun W (h:HoldsT W t) (tb:Tab W) (hst:Sta W)=>(NextC h ok tb hst hc k s hs hzz h0 h1 hr).mono fun _ _ h=>(⟨h.1,h.2.1⟩:_∧_);have cp:=fun W (h:HoldsT W t) (tb:Tab W) (hst:Sta W)=>PrevC h ok tb hst hc k s hs hzz h0 h1 hq;have HTT:=kj ht;have HTB:=kj tb;have HST:=kj hst;obtain ⟨p,cap,e1⟩:=ht.r.form;obtain ⟨pz,capz,e3⟩:=ht.z.form;obtain ⟨pl,capl,e7⟩:=ht.l.form;clear hr hq hsp hg;obtain ⟨q1,q2⟩:=q;obtain ⟨r1,r2⟩:=r;generalize VV t.rs z.es s=V at *;obtain ⟨vo,vs,va⟩:=V;unfold ValV.cells at cv;obtain ⟨rv,zv,lv,rs,zs,ls⟩:=t;dsimp only at e1 e3 e7 cv cn cp HTT ⊢;subst e1 e3 e7;generalize rs.length=n at *;generalize zs.length=nz at *;generalize ls.length=nl at *;have CV:=kj cv;have CN:=kj cn;have CP:=kj cp;clear cv cn cp ht ok tb hst hc hzz;cases q2<;>cases r2<;>(unfold fromP at ea;unfold toN at eb;simp only [Bool.false_eq_true,if_false,if_true] at ea eb;(try unfold lo at ea);(try unfold hi at eb);subst ea;subst eb)
 all_goals
  go_enter func32,ntmps32
  go_upto_region 8 with (first
   |(go_at_call 16;(with_reducible refine (CV.out _ ?_ ?_).mono ?_);(· exact HTT.out.later bcq);(· exact HTB.out.later bcq);rintro e w1 ⟨rfl,hb1⟩;obtain ⟨_,_,_⟩:=bcs hb1 (w.heap.size);obtain ⟨_,_,_⟩:=bcs hb1 (w.heap.size+1))
   |(go_at_call 18;(with_reducible refine (CP.out _ ?_ ?_ ?_).mono ?_);(· exact HTT.out.later bcq);(· exact HTB.out.later bcq);(· exact HST.out.later bcq);rintro e w2 ⟨rfl,hb2⟩;obtain ⟨_,_,_⟩:=bcs hb2 (w.heap.size);obtain ⟨_,_,_⟩:=bcs hb2 (w.heap.size+1);obtain ⟨_,_,_⟩:=bcs hb2 (w1.heap.size);obtain ⟨_,_,_⟩:=bcs hb2 (w1.heap.size+1)))
  (try have hsz:w2.heap.size≤(w2.setCell ⟨w1.heap.size+1,0,none⟩ (.int .i64 q1)).heap.size:=by simp)
  go_wp2_with (go_at_call 17;(with_reducible refine (CN.out _ ?_ ?_ ?_).mono ?_);(· exact HTT.out.later bcq);(· exact HTB.out.later bcq);(· exact HST.out.later bcq);rintro e w3 ⟨rfl,hb3⟩;obtain ⟨_,_,_⟩:=bcs hb3 (w.heap.size);obtain ⟨_,_,_⟩:=bcs hb3 (w.heap.size+1);obtain ⟨_,_,_⟩:=bcs hb3 (w1.heap.size);obtain ⟨_,_,_⟩:=bcs hb3 (w1.heap.size+1))
  refine bodyPost_ret (v:=.tuple #[.agg #[.int .i64 _,.int .i64 _,.int .i64 vo,.int .i64 vs,.string va],.int .i64 0]) ?_ rfl ⟨rfl,bcq⟩;simp only [results,results32];go_simp
theorem AtT {w:World} {t:TabV} (ht:HoldsT w t) (ok:Ok t) (tb:Tab w) (hst:Sta w) (hc:(Chk.check t.rs).2=0) (zone s:Int) (hs:I64 s) {i:InfV} {why:Int} (hi':InfT t zone s i why):
 Calls prog 32 #[.agg #[t.rv,t.zv,t.lv],.int .i64 zone,.int .i64 s] w fun e w'=>e=.returned (.tuple #[.agg i.cells.toArray,.int .i64 why])∧Below w.heap.size w w':=by
 rcases hi' with ⟨rfl,h,rfl⟩|⟨z,hz,⟨h0,h1⟩,rfl,hsp,hv⟩
 ·exact AtNot ht ok tb zone s hs h
 ·obtain ⟨k,rfl⟩:∃ k:Nat,zone=(k:Int):=⟨zone.toNat,by have:=(zone_mem hz).1;omega⟩;unfold InfV.cells;rw [hv];exact AtC ht ok tb hst hc k s hs hz h0 h1 hsp
end Inf
end
section
open Go.RowKit NB
namespace Inf
open Pt
def wallB (i:InfV):Bool:=decide (lo≤i.fr)&&decide (i.fr<i.en)&&decide (i.en≤hi+1)&&decide (-64800≤i.v.off)&&decide (i.v.off≤64800)
def wallV (i:InfV):Int×Int:=if wallB i=true then (i.wf,i.wt) else (0,0)
set_option maxHeartbeats 1600000 in
theorem CutC (a b:Int) (w:World):Calls prog 137 #[.agg #[.int .i64 a,.int .i64 b],.agg #[.int .i64 (-1096193779200),.int .i64 971890963200]] w fun e w'=>e=.returned (.agg #[.int .i64 (max a (-1096193779200)),.int .i64 (min b 971890963200)])∧Below w.heap.size w w':=by
 go_enter func137,ntmps137;go_wp2;refine bodyPost_ret (v:=.agg #[.int .i64 (max a (-1096193779200)),.int .i64 (min b 971890963200)]) ?_ rfl ⟨rfl,bcq⟩;simp only [results,results137];go_simp
theorem SRightC (a b:Int) (w:World):Calls prog 57 #[.agg #[.int .i64 a,.int .i64 b]] w fun e w'=>e=.returned (.bool (decide (a<b)))∧Below w.heap.size w w':=by
 go_enter func57,ntmps57;go_wp2;go_ret;exact ⟨rfl,bcq⟩
theorem AddC (a b:Int) (w:World) (h0: -1096193779200≤a) (h1:a≤971890963200) (h2: -64800≤b) (h3:b≤64800):Calls prog 138 #[.int .i64 a,.int .i64 b] w fun e w'=>e=.returned (.tuple #[.int .i64 (a+b),.int .i64 0])∧Below w.heap.size w w':=by
 by_cases h:a<0<;>by_cases h':b<0<;>by_cases h'':a+b<0
 all_goals
  first
   |(exfalso;omega)
   |(go_enter func138,ntmps138
     go_wp2;go_ret2;exact ⟨rfl,bcq⟩)
set_option maxRecDepth 100000 in
set_option maxHeartbeats 3200000 in
theorem BothC (a b:Int) (w:World) {X Y:Int} {D:Bool} (hy:a<b∧max a (-1096193779200)<min b 971890963200→X=max a (-1096193779200)∧Y=min b 971890963200∧D=true) (hn:¬(a<b∧max a (-1096193779200)<min b 971890963200)→X=0∧Y=0∧D=false):Calls prog 80 #[.agg #[.int .i64 a,.int .i64 b],.agg #[.int .i64 (-1096193779200),.int .i64 971890963200]] w fun e w'=>e=.returned (.tuple #[.agg #[.int .i64 X,.int .i64 Y],.bool D])∧Below w.heap.size w w':=by
 have c1:=fun W=>CutC a b W;have r1:=fun W=>SRightC a b W;have r2:=fun W=>SRightC (-1096193779200) 971890963200 W;have r3:=fun W=>SRightC (max a (-1096193779200)) (min b 971890963200) W;generalize max a (-1096193779200)=x at *;generalize min b 971890963200=y at *;rw [decide_eq_true (by decide)] at r2
 by_cases h1:a<b
 ·by_cases h2:x<y
  ·obtain ⟨rfl,rfl,rfl⟩:=hy ⟨h1,h2⟩;rw [decide_eq_true h1] at r1;rw [decide_eq_true h2] at r3;have C1:=kj c1;have R1:=kj r1;have R2:=kj r2;have R3:=kj r3;clear c1 r1 r2 r3 hy hn;go_enter func80,ntmps80
   go_wp2_with (first
    |(go_at_call 137;(with_reducible refine (C1.out _).mono ?_);rintro e w1 ⟨rfl,hb1⟩;obtain ⟨hc1_0,hf1_0,hz1_0⟩:=bcs hb1 (w.heap.size);obtain ⟨hc1_1,hf1_1,hz1_1⟩:=bcs hb1 (w.heap.size+1);obtain ⟨hc1_2,hf1_2,hz1_2⟩:=bcs hb1 (w.heap.size+1+1))
    |(go_at_call 57;(with_reducible refine (R1.out _).mono ?_);rintro e w2 ⟨rfl,hb2⟩;obtain ⟨hc2_0,hf2_0,hz2_0⟩:=bcs hb2 (w.heap.size);obtain ⟨hc2_1,hf2_1,hz2_1⟩:=bcs hb2 (w.heap.size+1);obtain ⟨hc2_2,hf2_2,hz2_2⟩:=bcs hb2 (w.heap.size+1+1);obtain ⟨hc2_3,hf2_3,hz2_3⟩:=bcs hb2 (w1.heap.size))
    |(go_at_call 57;(with_reducible refine (R2.out _).mono ?_);rintro e w3 ⟨rfl,hb3⟩;obtain ⟨hc3_0,hf3_0,hz3_0⟩:=bcs hb3 (w.heap.size);obtain ⟨hc3_1,hf3_1,hz3_1⟩:=bcs hb3 (w.heap.size+1);obtain ⟨hc3_2,hf3_2,hz3_2⟩:=bcs hb3 (w.heap.size+1+1);obtain ⟨hc3_3,hf3_3,hz3_3⟩:=bcs hb3 (w1.heap.size))
    |(go_at_call 57;(with_reducible refine (R3.out _).mono ?_);rintro e w4 ⟨rfl,hb4⟩;obtain ⟨hc4_0,hf4_0,hz4_0⟩:=bcs hb4 (w.heap.size);obtain ⟨hc4_1,hf4_1,hz4_1⟩:=bcs hb4 (w.heap.size+1);obtain ⟨hc4_2,hf4_2,hz4_2⟩:=bcs hb4 (w.heap.size+1+1);obtain ⟨hc4_3,hf4_3,hz4_3⟩:=bcs hb4 (w1.heap.size)))
   refine bodyPost_ret (v:=.tuple #[.agg #[.int .i64 X,.int .i64 Y],.bool true]) ?_ rfl ⟨rfl,bcq⟩;simp only [results,results80];go_simp
  ·obtain ⟨rfl,rfl,rfl⟩:=hn (fun h=>h2 h.2);rw [decide_eq_true h1] at r1;rw [decide_eq_false h2] at r3;have C1:=kj c1;have R1:=kj r1;have R2:=kj r2;have R3:=kj r3;clear c1 r1 r2 r3 hy hn;go_enter func80,ntmps80
   go_wp2_with (first
    |(go_at_call 137;(with_reducible refine (C1.out _).mono ?_);rintro e w1 ⟨rfl,hb1⟩;obtain ⟨hc1_0,hf1_0,hz1_0⟩:=bcs hb1 (w.heap.size);obtain ⟨hc1_1,hf1_1,hz1_1⟩:=bcs hb1 (w.heap.size+1);obtain ⟨hc1_2,hf1_2,hz1_2⟩:=bcs hb1 (w.heap.size+1+1))
    |(go_at_call 57;(with_reducible refine (R1.out _).mono ?_);rintro e w2 ⟨rfl,hb2⟩;obtain ⟨hc2_0,hf2_0,hz2_0⟩:=bcs hb2 (w.heap.size);obtain ⟨hc2_1,hf2_1,hz2_1⟩:=bcs hb2 (w.heap.size+1);obtain ⟨hc2_2,hf2_2,hz2_2⟩:=bcs hb2 (w.heap.size+1+1);obtain ⟨hc2_3,hf2_3,hz2_3⟩:=bcs hb2 (w1.heap.size))
    |(go_at_call 57;(with_reducible refine (R2.out _).mono ?_);rintro e w3 ⟨rfl,hb3⟩;obtain ⟨hc3_0,hf3_0,hz3_0⟩:=bcs hb3 (w.heap.size);obtain ⟨hc3_1,hf3_1,hz3_1⟩:=bcs hb3 (w.heap.size+1);obtain ⟨hc3_2,hf3_2,hz3_2⟩:=bcs hb3 (w.heap.size+1+1);obtain ⟨hc3_3,hf3_3,hz3_3⟩:=bcs hb3 (w1.heap.size))
    |(go_at_call 57;(with_reducible refine (R3.out _).mono ?_);rintro e w4 ⟨rfl,hb4⟩;obtain ⟨hc4_0,hf4_0,hz4_0⟩:=bcs hb4 (w.heap.size);obtain ⟨hc4_1,hf4_1,hz4_1⟩:=bcs hb4 (w.heap.size+1);obtain ⟨hc4_2,hf4_2,hz4_2⟩:=bcs hb4 (w.heap.size+1+1);obtain ⟨hc4_3,hf4_3,hz4_3⟩:=bcs hb4 (w1.heap.size)))
   refine bodyPost_ret (v:=.tuple #[.agg #[.int .i64 0,.int .i64 0],.bool false]) ?_ rfl ⟨rfl,bcq⟩;simp only [results,results80];go_simp
 ·obtain ⟨rfl,rfl,rfl⟩:=hn (fun h=>h1 h.1);rw [decide_eq_false h1] at r1;have C1:=kj c1;have R1:=kj r1;clear c1 r1 r2 r3 hy hn;go_enter func80,ntmps80
  go_wp2_with (first
   |(go_at_call 137;(with_reducible refine (C1.out _).mono ?_);rintro e w1 ⟨rfl,hb1⟩;obtain ⟨hc1_0,hf1_0,hz1_0⟩:=bcs hb1 (w.heap.size);obtain ⟨hc1_1,hf1_1,hz1_1⟩:=bcs hb1 (w.heap.size+1);obtain ⟨hc1_2,hf1_2,hz1_2⟩:=bcs hb1 (w.heap.size+1+1))
   |(go_at_call 57;(with_reducible refine (R1.out _).mono ?_);rintro e w2 ⟨rfl,hb2⟩;obtain ⟨hc2_0,hf2_0,hz2_0⟩:=bcs hb2 (w.heap.size);obtain ⟨hc2_1,hf2_1,hz2_1⟩:=bcs hb2 (w.heap.size+1);obtain ⟨hc2_2,hf2_2,hz2_2⟩:=bcs hb2 (w.heap.size+1+1);obtain ⟨hc2_3,hf2_3,hz2_3⟩:=bcs hb2 (w1.heap.size)))
  refine bodyPost_ret (v:=.tuple #[.agg #[.int .i64 0,.int .i64 0],.bool false]) ?_ rfl ⟨rfl,bcq⟩;simp only [results,results80];go_simp
set_option maxRecDepth 100000 in
set_option maxHeartbeats 3200000 in
theorem MoveC (a b o:Int) (w:World) (h0: -1096193779200≤a) (h1:a<b) (h2:b≤971890963200) (h3: -64800≤o) (h4:o≤64800):Calls prog 81 #[.agg #[.int .i64 a,.int .i64 b],.int .i64 o] w fun e w'=>e=.returned (.tuple #[.agg #[.int .i64 (a+o),.int .i64 (b+o)],.int .i64 0])∧Below w.heap.size w w':=by
 have c1:=fun W=>AddC a o W h0 (by omega) h3 h4;have c2:=fun W=>AddC b o W (by omega) h2 h3 h4;have r1:=fun W=>SRightC a b W;rw [decide_eq_true h1] at r1;have C1:=kj c1;have C2:=kj c2;have R1:=kj r1;clear c1 c2 r1;go_enter func81,ntmps81
 go_wp2_with (first
  |(go_at_call 138;(with_reducible refine (C1.out _).mono ?_);rintro e w1 ⟨rfl,hb1⟩;obtain ⟨_,_,_⟩:=bcs hb1 (w.heap.size);obtain ⟨_,_,_⟩:=bcs hb1 (w.heap.size+1))
  |(go_at_call 138;(with_reducible refine (C2.out _).mono ?_);rintro e w2 ⟨rfl,hb2⟩;obtain ⟨_,_,_⟩:=bcs hb2 (w.heap.size);obtain ⟨_,_,_⟩:=bcs hb2 (w.heap.size+1))
  |(go_at_call 57;(with_reducible refine (R1.out _).mono ?_);rintro e w3 ⟨rfl,hb3⟩;obtain ⟨_,_,_⟩:=bcs hb3 (w.heap.size);obtain ⟨_,_,_⟩:=bcs hb3 (w.heap.size+1)))
 refine bodyPost_ret (v:=.tuple #[.agg #[.int .i64 (a+o),.int .i64 (b+o)],.int .i64 0]) ?_ rfl ⟨rfl,bcq⟩;simp only [results,results81];go_simp
end Inf
end
section
open Go.RowKit NB
namespace Inf
open Pt
theorem wall_cases (fr en off sv:Int) (ab:ByteArray):(wallV ⟨fr,en,⟨off,sv,ab⟩⟩=(fr+off,en+off)∧ -1096193779200≤fr∧fr<en∧en≤971890963200∧ -64800≤off∧off≤64800)∨(wallV ⟨fr,en,⟨off,sv,ab⟩⟩=(0,0)∧(en≤fr∨(fr<en∧fr < -1096193779200)∨(fr<en∧ -1096193779200≤fr∧971890963200<en)∨(fr<en∧ -1096193779200≤fr∧en≤971890963200∧off < -64800)∨(fr<en∧ -1096193779200≤fr∧en≤971890963200∧ -64800≤off∧64800<off))):=by
 unfold wallV wallB InfV.wf InfV.wt lo hi;dsimp only
 by_cases h: -1096193779200≤fr∧fr<en∧en≤971890963200∧ -64800≤off∧off≤64800
 ·rw [if_pos (by simp only [Bool.and_eq_true,decide_eq_true_eq];omega)];exact .inl ⟨rfl,h⟩
 ·rw [if_neg (by simp only [Bool.and_eq_true,decide_eq_true_eq];omega)];exact .inr ⟨rfl,by omega⟩
set_option maxRecDepth 100000 in
set_option maxHeartbeats 6400000 in
theorem WallC (fr en off sv:Int) (ab:ByteArray) (w:World):Calls prog 38 #[.agg #[.int .i64 fr,.int .i64 en,.int .i64 off,.int .i64 sv,.string ab]] w fun e w'=>e=.returned (.agg #[.int .i64 (wallV ⟨fr,en,⟨off,sv,ab⟩⟩).1,.int .i64 (wallV ⟨fr,en,⟨off,sv,ab⟩⟩).2])∧Below w.heap.size w w':=by
 rcases wall_cases fr en off sv ab with ⟨hv,h1,h2,h3,h4,h5⟩|⟨hv,hc⟩
 ·rw [hv];clear hv;have C1:=kj (fun W=>BothC fr en W (X:=fr) (Y:=en) (D:=true) (fun _=>⟨by omega,by omega,rfl⟩) (fun h=>by omega));have C2:=kj (fun W=>MoveC fr en off W h1 h2 h3 h4 h5);go_enter func38,ntmps38
  go_wp2_with (first
   |(go_at_call 80;(with_reducible refine (C1.out _).mono ?_);rintro e w1 ⟨rfl,hb1⟩;obtain ⟨hc1_0,hf1_0,hz1_0⟩:=bcs hb1 (w.heap.size);obtain ⟨hc1_1,hf1_1,hz1_1⟩:=bcs hb1 (w.heap.size+1);obtain ⟨hc1_2,hf1_2,hz1_2⟩:=bcs hb1 (w.heap.size+1+1))
   |(go_at_call 81;(with_reducible refine (C2.out _).mono ?_);rintro e w2 ⟨rfl,hb2⟩;obtain ⟨_,_,_⟩:=bcs hb2 (w.heap.size);obtain ⟨_,_,_⟩:=bcs hb2 (w.heap.size+1);obtain ⟨_,_,_⟩:=bcs hb2 (w.heap.size+1+1)))
  refine bodyPost_ret (v:=.agg #[.int .i64 (fr+off),.int .i64 (en+off)]) ?_ rfl ⟨rfl,bcq⟩;simp only [results,results38];go_simp
 ·rw [hv];clear hv;have key:∃ (X Y:Int) (D:Bool),(fr<en∧max fr (-1096193779200)<min en 971890963200→X=max fr (-1096193779200)∧Y=min en 971890963200∧D=true)∧(¬ (fr<en∧max fr (-1096193779200)<min en 971890963200)→X=0∧Y=0∧D=false)∧(D=false∨(D=true∧(X==fr)=false)∨(D=true∧X=fr∧(Y==en)=false)∨(D=true∧X=fr∧Y=en∧off < -64800)∨(D=true∧X=fr∧Y=en∧ -64800≤off∧64800<off)):=by
   by_cases hD:fr<en∧max fr (-1096193779200)<min en 971890963200
   ·refine ⟨_,_,true,fun _=>⟨rfl,rfl,rfl⟩,fun h=>absurd hD h,?_⟩;simp only [beq_eq_false_iff_ne,ne_eq,Bool.true_eq_false,true_and,false_or];omega
   ·exact ⟨0,0,false,fun h=>absurd h hD,fun _=>⟨rfl,rfl,rfl⟩,.inl rfl⟩
  obtain ⟨X,Y,D,k1,k2,k3⟩:=key;have C1:=kj (fun W=>BothC fr en W k1 k2);clear k1 k2 hc;rcases k3 with rfl|⟨rfl,g1⟩|⟨rfl,rfl,g2⟩|⟨rfl,rfl,rfl,g3⟩|⟨rfl,rfl,rfl,g3,g4⟩
  all_goals
   go_enter func38,ntmps38
   go_wp2_with (go_at_call 80;(with_reducible refine (C1.out _).mono ?_);rintro e w1 ⟨rfl,hb1⟩;obtain ⟨hc1_0,hf1_0,hz1_0⟩:=bcs hb1 (w.heap.size);obtain ⟨hc1_1,hf1_1,hz1_1⟩:=bcs hb1 (w.heap.size+1);obtain ⟨hc1_2,hf1_2,hz1_2⟩:=bcs hb1 (w.heap.size+1+1))
   refine bodyPost_ret (v:=.agg #[.int .i64 0,.int .i64 0]) ?_ rfl ⟨rfl,bcq⟩;simp only [results,results38];go_simp
end Inf
end
end Go.Proofs.YtgmfojgnjdpofaaGreatDoor
