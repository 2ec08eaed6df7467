import Derived.Test.YtgmfojgnjdpofaaGreatDoorJ2
import Derived.Test.YtgmfojgnjdpofaaGreatDoorJ1
import Derived.Test.YtgmfojgnjdpofaaGreatDoorH37
import Derived.Test.YtgmfojgnjdpofaaGreatDoorH34
namespace Go.Proofs.YtgmfojgnjdpofaaGreatDoor
open Go.Proofs.Tryz
section
open Go.RowKit NB
namespace Inf
open Pt Chg
theorem SubC (a:Int) (w:World) (h0: -9223372036854775808<a) (h1:a≤9223372036854775807):Calls prog 79 #[.int .i64 a,.int .i64 1] w fun e w'=>e=.returned (.tuple #[.int .i64 (a-1),.int .i64 0])∧Below w.heap.size w w':=by
 by_cases h:a<0<;>by_cases h':a-1<0
 all_goals
  first
   |(exfalso;omega)
   |(go_enter func79,ntmps79
     go_wp2;go_ret2;exact ⟨rfl,bcq⟩)
set_option maxRecDepth 100000 in
set_option maxHeartbeats 6400000 in
theorem Behind {w:World} {t:TabV} (ht:HoldsT w t) (ok:Ok t) (tb:Tab w) (hst:Sta w) (hc:(Chk.check t.rs).2=0) (zone s fr en off sv:Int) (ab:ByteArray) (hsx:s=en) (hs:I64 s) {i:InfV} {why:Int} (hi':InfT t zone s i why):
 Calls prog 34 #[.agg #[t.rv,t.zv,t.lv],.int .i64 zone,.agg #[.int .i64 fr,.int .i64 en,.int .i64 off,.int .i64 sv,.string ab]] w fun e w'=>e=.returned (.tuple #[.agg i.cells.toArray,.bool (decide (why=0))])∧Below w.heap.size w w':=by
 have ca:=fun W (h:HoldsT W t) (tb:Tab W) (hst:Sta W)=>AtT h ok tb hst hc zone s hs hi';have HTT:=kj ht;have HTB:=kj tb;have HST:=kj hst;obtain ⟨p,cap,e1⟩:=ht.r.form;obtain ⟨pz,capz,e3⟩:=ht.z.form;obtain ⟨pl,capl,e7⟩:=ht.l.form;obtain ⟨xf,xt,⟨xo,xs,xa⟩⟩:=i;unfold InfV.cells at ca ⊢;obtain ⟨rv,zv,lv,rs,zs,ls⟩:=t;dsimp only at e1 e3 e7 ca HTT ⊢;subst e1 e3 e7;generalize rs.length=n at *;generalize zs.length=nz at *;generalize ls.length=nl at *;have CA:=kj ca;clear ca ht ok hc hi' tb hst;subst hsx;obtain ⟨D,hD⟩:∃ D,D=decide (why=0):=⟨_,rfl⟩;rw [← hD];have q0:(why==0)=D:=by rw [hD];by_cases h:why=0<;>simp [h]
 clear hD;go_enter func34,ntmps34
 go_wp2_with (go_at_call 32;(with_reducible refine (CA.out _ ?_ ?_ ?_).mono ?_);(· exact HTT.out.later bcq);(· exact HTB.out.later bcq);(· exact HST.out.later bcq);rintro e w1 ⟨rfl,hb1⟩;obtain ⟨_,_,_⟩:=bcs hb1 (w.heap.size);obtain ⟨_,_,_⟩:=bcs hb1 (w.heap.size+1);obtain ⟨_,_,_⟩:=bcs hb1 (w.heap.size+1+1))
 refine bodyPost_ret (v:=.tuple #[.agg #[.int .i64 xf,.int .i64 xt,.int .i64 xo,.int .i64 xs,.string xa],.bool D]) ?_ rfl ⟨rfl,bcq⟩;simp only [results,results34];go_simp
set_option maxRecDepth 100000 in
set_option maxHeartbeats 6400000 in
theorem Ahead {w:World} {t:TabV} (ht:HoldsT w t) (ok:Ok t) (tb:Tab w) (hst:Sta w) (hc:(Chk.check t.rs).2=0) (zone s fr en off sv:Int) (ab:ByteArray) (hsx:s=fr-1) (hlo:I64 s) (hI:I64 fr) (hs:I64 s) {i:InfV} {why:Int} (hi':InfT t zone s i why):
 Calls prog 36 #[.agg #[t.rv,t.zv,t.lv],.int .i64 zone,.agg #[.int .i64 fr,.int .i64 en,.int .i64 off,.int .i64 sv,.string ab]] w fun e w'=>e=.returned (.tuple #[.agg i.cells.toArray,.bool (decide (why=0))])∧Below w.heap.size w w':=by
 have ca:=fun W (h:HoldsT W t) (tb:Tab W) (hst:Sta W)=>AtT h ok tb hst hc zone s hs hi';have hz0:=infT_out hi';have HTT:=kj ht;have HTB:=kj tb;have HST:=kj hst;obtain ⟨p,cap,e1⟩:=ht.r.form;obtain ⟨pz,capz,e3⟩:=ht.z.form;obtain ⟨pl,capl,e7⟩:=ht.l.form;obtain ⟨xf,xt,⟨xo,xs,xa⟩⟩:=i;unfold InfV.cells at ca ⊢;obtain ⟨rv,zv,lv,rs,zs,ls⟩:=t;dsimp only at e1 e3 e7 ca hz0 HTT ⊢;subst e1 e3 e7;generalize rs.length=n at *;generalize zs.length=nz at *;generalize ls.length=nl at *;have CA:=kj ca;clear ca ht ok hc hi' tb hst;subst hsx;unfold I64 at hlo hI;have CS:=kj (fun W=>SubC fr W (by omega) (by omega))
 by_cases hw:why=0
 ·subst hw;clear hz0;go_enter func36,ntmps36
  go_wp2_with (first
   |(go_at_call 79;(with_reducible refine (CS.out _).mono ?_);rintro e w9 ⟨rfl,hb9⟩;obtain ⟨hc9_0,hf9_0,hz9_0⟩:=bcs hb9 (w.heap.size);obtain ⟨hc9_1,hf9_1,hz9_1⟩:=bcs hb9 (w.heap.size+1);obtain ⟨hc9_2,hf9_2,hz9_2⟩:=bcs hb9 (w.heap.size+1+1))
   |(go_at_call 32;(with_reducible refine (CA.out _ ?_ ?_ ?_).mono ?_);(· exact HTT.out.later bcq);(· exact HTB.out.later bcq);(· exact HST.out.later bcq);rintro e w1 ⟨rfl,hb1⟩;obtain ⟨hc1_0,hf1_0,hz1_0⟩:=bcs hb1 (w.heap.size);obtain ⟨hc1_1,hf1_1,hz1_1⟩:=bcs hb1 (w.heap.size+1);obtain ⟨hc1_2,hf1_2,hz1_2⟩:=bcs hb1 (w.heap.size+1+1)))
  refine bodyPost_ret (v:=.tuple #[.agg #[.int .i64 xf,.int .i64 xt,.int .i64 xo,.int .i64 xs,.string xa],.bool true]) ?_ rfl ⟨rfl,bcq⟩;simp only [results,results36];go_simp
 ·have q0:(why != 0)=true:=by simpa using hw
  have e0:=hz0 hw;unfold zeroI zeroV at e0;injection e0 with e01 e02 e03;injection e03 with e03 e04 e05;subst e01 e02 e03 e04 e05;rw [decide_eq_false hw];clear hz0 hw;go_enter func36,ntmps36
  go_wp2_with (first
   |(go_at_call 79;(with_reducible refine (CS.out _).mono ?_);rintro e w9 ⟨rfl,hb9⟩;obtain ⟨hc9_0,hf9_0,hz9_0⟩:=bcs hb9 (w.heap.size);obtain ⟨hc9_1,hf9_1,hz9_1⟩:=bcs hb9 (w.heap.size+1);obtain ⟨hc9_2,hf9_2,hz9_2⟩:=bcs hb9 (w.heap.size+1+1))
   |(go_at_call 32;(with_reducible refine (CA.out _ ?_ ?_ ?_).mono ?_);(· exact HTT.out.later bcq);(· exact HTB.out.later bcq);(· exact HST.out.later bcq);rintro e w1 ⟨rfl,hb1⟩;obtain ⟨hc1_0,hf1_0,hz1_0⟩:=bcs hb1 (w.heap.size);obtain ⟨hc1_1,hf1_1,hz1_1⟩:=bcs hb1 (w.heap.size+1);obtain ⟨hc1_2,hf1_2,hz1_2⟩:=bcs hb1 (w.heap.size+1+1)))
  refine bodyPost_ret (v:=.tuple #[.agg #[.int .i64 0,.int .i64 0,.int .i64 0,.int .i64 0,.string ⟨#[]⟩],.bool false]) ?_ rfl ⟨rfl,bcq⟩;simp only [results,results36];go_simp
end Inf
end
section
open Go.RowKit NB
namespace L36
open Pt Chg L34 L35 Inf
theorem duo_sp1 {l:List RuleV} {a b:EraV} {x y:ValV} {d:Int} (h:Duo l a b x y d) (hxy:y≠x) {s:Int} (h0:lo≤s) (hs:s<d):Spn l [a,b] s lo d where
 low:=Int.le_refl _
 from':=h0
 to':=hs
 high:=by have:=h.d0.2;omega
 all u _ hu:=by rw [duo_v h,duo_v h,if_pos hu,if_pos hs]
 start:=.inl rfl
 stop:=.inr (by rw [duo_v h,duo_v h,if_neg (Int.lt_irrefl _),if_pos hs];exact hxy)
theorem duo_sp2 {l:List RuleV} {a b:EraV} {x y:ValV} {d:Int} (h:Duo l a b x y d) (hxy:x≠y) {s:Int} (hs:d≤s) (h1:s≤hi):Spn l [a,b] s d (hi+1) where
 low:=by have:=h.d0.1;omega
 from':=hs
 to':=by omega
 high:=Int.le_refl _
 all u hu _:=by rw [duo_v h,duo_v h,if_neg (by omega),if_neg (by omega)]
 start:=.inr (by rw [duo_v h,duo_v h,if_pos (by omega),if_neg (by omega)];exact hxy)
 stop:=.inl rfl
theorem vE:L33.AV [Us.us0,Us.us1] L33.eE 1730613600=⟨-18000,0,⟨#[69,83,84]⟩⟩:=by
 have hl:Frc.lastP [Us.us0,Us.us1] L33.eE 1730613600=some ⟨1,2024,1730599200⟩:=by
  unfold Frc.lastP Chn.lastO;rw [if_pos (by decide +kernel),show Occ.prevO [Us.us0,Us.us1] L33.eE.rules ⟨-1,0,Chn.clampE 1730613600+64800+1⟩=some ⟨1,2024,1730599200⟩ by decide +kernel];exact Occ.pick_here (by decide +kernel)
 rw [L33.av_two (by decide +kernel) (by decide +kernel)];unfold Frc.stateV;rw [hl];decide +kernel
theorem vvE (u:Int):VV [Us.us0,Us.us1] [L33.eE] u=L33.AV [Us.us0,Us.us1] L33.eE u:=by
 unfold VV;rw [show idx (Zn.endsL [Us.us0,Us.us1] [L33.eE]) u=0 by rw [endsE];rfl];rfl
theorem vS:VV [Us.us0,Us.us1] [L33.eE] 1719792000=⟨-14400,3600,⟨#[69,68,84]⟩⟩:=by
 rw [vvE];have:=L33.a1;rw [L33.at_right (by decide +kernel)] at this;exact (Prod.mk.inj this).1
section
variable (rv zv va ve:Value)
theorem spB:Spn [Us.us0,Us.us1] [L33.eE] 1719792000 1710054000 1730613600:=by
 have h0:(valV (two (.bool true) (.bool true) (.bool true) (.bool true)) 1 1719792000).2=0:=by rw [v3]
 rcases nE (.bool true) (.bool true) (.bool true) (.bool true) with ⟨h,_⟩|⟨z,hz,_,hr⟩
 ·exact absurd h0 h
 rcases p6 (.bool true) (.bool true) (.bool true) (.bool true) with ⟨h,_⟩|⟨z',hz',_,hq⟩
 ·exact absurd h0 h
 rw [zone1] at hz hz';cases hz;cases hz';exact spn_of goodE chk (by decide) (by decide) hr hq
theorem i1:InfT (two rv zv va ve) 0 0 ⟨-631155600,971890963200,⟨7200,0,⟨#[89]⟩⟩⟩ 0:=.inr ⟨zA va,rfl,by decide,rfl,duo_sp2 duoA (by decide) (by decide) (by decide),by show _=VV [Us.us0,Us.us1] [eA,eB] 0;rw [duo_v duoA];rfl⟩
theorem i2:InfT (two rv zv va ve) 1 1719792000 ⟨1710054000,1730613600,⟨-14400,3600,⟨#[69,68,84]⟩⟩⟩ 0:=.inr ⟨zE ve,rfl,by decide,rfl,spB,vS.symm⟩
theorem i3:InfT (two rv zv va ve) 2 0 zeroI 12:=.inl ⟨by rw [v4],by decide,rfl⟩
theorem i4:InfT (two rv zv va ve) 0 971890963200 zeroI 1:=.inl ⟨by rw [v6],by decide,rfl⟩
theorem i5:InfT (two rv zv va ve) 0 (-631155601) ⟨-1096193779200, -631155600,⟨3600,0,⟨#[88]⟩⟩⟩ 0:=.inr ⟨zA va,rfl,by decide,rfl,duo_sp1 duoA (by decide) (by decide) (by decide),by show _=VV [Us.us0,Us.us1] [eA,eB] (-631155601);rw [duo_v duoA];rfl⟩
theorem i7:∃ c,I64 c∧InfT (two rv zv va ve) 1 1730613600 ⟨1730613600,c,⟨-18000,0,⟨#[69,83,84]⟩⟩⟩ 0:=by
 obtain ⟨c,hc,_⟩:=spn_behind goodE chk spB (by decide);refine ⟨c,?_,.inr ⟨zE ve,rfl,by decide,rfl,hc,by rw [← vE];exact (vvE _).symm⟩⟩;have h1:=hc.low;have h2:=hc.to';have h3:=hc.high;unfold I64;unfold hi at h3;omega
theorem i8:InfT (two rv zv va ve) 0 (-1096193779201) zeroI 1:=.inl ⟨by rw [v7],by decide,rfl⟩
end
end L36
end
section
open Go.RowKit NB
namespace L36
open Pt Chg L34 L35 Inf
theorem at_c {w:World} {a b c d:Nat} (hx:HoldsT w (tw a b c d)) (tb:Tab w) (hst:Sta w) {zone s:Int} {i:InfV} {why:Int} (hs:I64 s) (h:∀ rv zv va ve,InfT (two rv zv va ve) zone s i why):
 Calls prog 32 #[twA a b,.int .i64 zone,.int .i64 s] w fun e w'=>e=.returned (.tuple #[.agg i.cells.toArray,.int .i64 why])∧Below w.heap.size w w':=
 AtT hx (ok_two _ _ _ _) tb hst chk zone s hs (h _ _ _ _)
theorem ahead_c {w:World} {a b c d:Nat} (hx:HoldsT w (tw a b c d)) (tb:Tab w) (hst:Sta w) (zone s fr en off sv:Int) (ab:ByteArray) {i:InfV} {why:Int} (hsx:s=fr-1) (h1:I64 s) (h2:I64 fr) (h:∀ rv zv va ve,InfT (two rv zv va ve) zone s i why):
 Calls prog 36 #[twA a b,.int .i64 zone,.agg #[.int .i64 fr,.int .i64 en,.int .i64 off,.int .i64 sv,.string ab]] w fun e w'=>e=.returned (.tuple #[.agg i.cells.toArray,.bool (decide (why=0))])∧Below w.heap.size w w':=
 Ahead hx (ok_two _ _ _ _) tb hst chk zone s fr en off sv ab hsx h1 h2 h1 (h _ _ _ _)
theorem behind_c {w:World} {a b c d:Nat} (hx:HoldsT w (tw a b c d)) (tb:Tab w) (hst:Sta w) (zone fr en off sv:Int) (ab:ByteArray) {i:InfV} {why:Int} (h1:I64 en) (h:∀ rv zv va ve,InfT (two rv zv va ve) zone en i why):
 Calls prog 34 #[twA a b,.int .i64 zone,.agg #[.int .i64 fr,.int .i64 en,.int .i64 off,.int .i64 sv,.string ab]] w fun e w'=>e=.returned (.tuple #[.agg i.cells.toArray,.bool (decide (why=0))])∧Below w.heap.size w w':=
 Behind hx (ok_two _ _ _ _) tb hst chk zone en fr en off sv ab rfl h1 (h _ _ _ _)
theorem wall_c (fr en off sv:Int) (ab:ByteArray) {x y:Int} (h:wallV ⟨fr,en,⟨off,sv,ab⟩⟩=(x,y)) (w:World):Calls prog 38 #[.agg #[.int .i64 fr,.int .i64 en,.int .i64 off,.int .i64 sv,.string ab]] w fun e w'=>e=.returned (.agg #[.int .i64 x,.int .i64 y])∧Below w.heap.size w w':=by
 have:=WallC fr en off sv ab w;rw [h] at this;exact this
set_option maxRecDepth 100000 in
set_option maxHeartbeats 12800000 in
theorem lives (w:World) (tb:Tab w) (hst:Sta w):Calls prog 31 #[] w fun e w'=>e=.returned (.bool true)∧Below w.heap.size w w':=by
 have cT:=Two;have HTB:=kj tb;have HST:=kj hst;obtain ⟨cc,hcc,h7⟩:∃ cc,I64 cc∧∀ rv zv va ve,InfT (two rv zv va ve) 1 1730613600 ⟨1730613600,cc,⟨-18000,0,⟨#[69,83,84]⟩⟩⟩ 0:=by
  obtain ⟨cc,h1,h2⟩:=i7 (.bool true) (.bool true) (.bool true) (.bool true);refine ⟨cc,h1,fun rv zv va ve=> ?_⟩;rcases h2 with ⟨_,h,_⟩|⟨z,hz,hr,hw,hs,hv⟩
  ·exact absurd rfl h
  ·rw [zone1] at hz;cases hz;exact .inr ⟨zE ve,rfl,hr,hw,hs,hv⟩
 have m1:=fun (a b c d:Nat) (W:World) (h:HoldsT W (tw a b c d)) (tb:Tab W) (hst:Sta W)=>at_c h tb hst (by unfold I64;decide) i1;have m2:=fun (a b c d:Nat) (W:World) (h:HoldsT W (tw a b c d)) (tb:Tab W) (hst:Sta W)=>at_c h tb hst (by unfold I64;decide) i2;have m3:=fun (a b c d:Nat) (W:World) (h:HoldsT W (tw a b c d)) (tb:Tab W) (hst:Sta W)=>at_c h tb hst (by unfold I64;decide) i3;have m4:=fun (a b c d:Nat) (W:World) (h:HoldsT W (tw a b c d)) (tb:Tab W) (hst:Sta W)=>at_c h tb hst (by unfold I64;decide) i4;have m5:=fun (a b c d:Nat) (W:World) (h:HoldsT W (tw a b c d)) (tb:Tab W) (hst:Sta W)=>ahead_c h tb hst 0 (-631155601) (-631155600) 971890963200 7200 0 ⟨#[89]⟩ (by decide) (by unfold I64;decide) (by unfold I64;decide) i5;have m6:=fun (a b c d:Nat) (W:World) (h:HoldsT W (tw a b c d)) (tb:Tab W) (hst:Sta W)=>behind_c h tb hst 0 (-631155600) 971890963200 7200 0 ⟨#[89]⟩ (by unfold I64;decide) i4;have m7:=fun (a b c d:Nat) (W:World) (h:HoldsT W (tw a b c d)) (tb:Tab W) (hst:Sta W)=>behind_c h tb hst 1 1710054000 1730613600 (-14400) 3600 ⟨#[69,68,84]⟩ (by unfold I64;decide) h7;have m8:=fun (a b c d:Nat) (W:World) (h:HoldsT W (tw a b c d)) (tb:Tab W) (hst:Sta W)=>ahead_c h tb hst 0 (-1096193779201) (-1096193779200) (-631155600) 3600 0 ⟨#[88]⟩ (by decide) (by unfold I64;decide) (by unfold I64;decide) i8;have q1:=fun W=>wall_c 1710054000 1730613600 (-14400) 3600 ⟨#[69,68,84]⟩ (x:=1710039600) (y:=1730599200) (by decide) W;have q2:=fun W=>wall_c 0 0 0 0 ⟨#[]⟩ (x:=0) (y:=0) (by decide) W;have q3:=fun W=>wall_c (-1096193779201) 0 0 0 ⟨#[]⟩ (x:=0) (y:=0) (by decide) W;have q4:=fun W=>wall_c (-631155600) 971890963200 64801 0 ⟨#[]⟩ (x:=0) (y:=0) (by decide) W;unfold InfV.cells at m1 m2 m3 m4 m5 m6 m7 m8;unfold zeroI zeroV at m3 m4 m6 m8;dsimp only at m1 m2 m3 m4 m5 m6 m7 m8;rw [decide_eq_true rfl] at m5 m7;rw [decide_eq_false (by decide)] at m6 m8;have M1:=kj m1;have M2:=kj m2;have M3:=kj m3;have M4:=kj m4;have M5:=kj m5;have M6:=kj m6;have M7:=kj m7;have M8:=kj m8;have CT:=kj cT;have Q1:=kj q1;have Q2:=kj q2;have Q3:=kj q3;have Q4:=kj q4;clear m1 m2 m3 m4 m5 m6 m7 m8 cT tb hst q1 q2 q3 q4 h7 hcc;go_enter func31,ntmps31
 go_upto_region 2 with (go_at_call 47;(with_reducible refine (CT.out _).mono ?_);rintro e w1 ⟨a,b,c,d,rfl,hx,hb1⟩;have HX:=kj hx;clear hx)
 have hs1:w1.heap.size<w1.heap.size+1:=by omega
 go_upto_region 9 with (first
  |(go_at_call 32;(with_reducible refine (M1.out a b c d _ ?_ ?_ ?_).mono ?_);(· exact HX.out.later bcq);(· exact HTB.out.later bcq);(· exact HST.out.later bcq);rintro e w2 ⟨rfl,hb2⟩;obtain ⟨_,_,_⟩:=bcs hb2 (w1.heap.size))
  |(go_at_call 32;(with_reducible refine (M2.out a b c d _ ?_ ?_ ?_).mono ?_);(· exact HX.out.later bcq);(· exact HTB.out.later bcq);(· exact HST.out.later bcq);rintro e w3 ⟨rfl,hb3⟩;obtain ⟨_,_,_⟩:=bcs hb3 (w1.heap.size);obtain ⟨_,_,_⟩:=bcs hb3 (w2.heap.size))
  |(go_at_call 32;(with_reducible refine (M3.out a b c d _ ?_ ?_ ?_).mono ?_);(· exact HX.out.later bcq);(· exact HTB.out.later bcq);(· exact HST.out.later bcq);rintro e w4 ⟨rfl,hb4⟩;obtain ⟨_,_,_⟩:=bcs hb4 (w1.heap.size);obtain ⟨_,_,_⟩:=bcs hb4 (w2.heap.size);obtain ⟨_,_,_⟩:=bcs hb4 (w3.heap.size))
  |(go_at_call 32;(with_reducible refine (M4.out a b c d _ ?_ ?_ ?_).mono ?_);(· exact HX.out.later bcq);(· exact HTB.out.later bcq);(· exact HST.out.later bcq);rintro e w5 ⟨rfl,hb5⟩;obtain ⟨_,_,_⟩:=bcs hb5 (w1.heap.size);obtain ⟨_,_,_⟩:=bcs hb5 (w2.heap.size);obtain ⟨_,_,_⟩:=bcs hb5 (w3.heap.size))
  |(go_at_call 36;(with_reducible refine (M5.out a b c d _ ?_ ?_ ?_).mono ?_);(· exact HX.out.later bcq);(· exact HTB.out.later bcq);(· exact HST.out.later bcq);rintro e w6 ⟨rfl,hb6⟩;obtain ⟨_,_,_⟩:=bcs hb6 (w1.heap.size);obtain ⟨_,_,_⟩:=bcs hb6 (w2.heap.size);obtain ⟨_,_,_⟩:=bcs hb6 (w3.heap.size))
  |(go_at_call 34;(with_reducible refine (M6.out a b c d _ ?_ ?_ ?_).mono ?_);(· exact HX.out.later bcq);(· exact HTB.out.later bcq);(· exact HST.out.later bcq);rintro e w7 ⟨rfl,hb7⟩;obtain ⟨_,_,_⟩:=bcs hb7 (w1.heap.size);obtain ⟨_,_,_⟩:=bcs hb7 (w2.heap.size);obtain ⟨_,_,_⟩:=bcs hb7 (w3.heap.size);obtain ⟨_,_,_⟩:=bcs hb7 (w6.heap.size))
  |(go_at_call 34;(with_reducible refine (M7.out a b c d _ ?_ ?_ ?_).mono ?_);(· exact HX.out.later bcq);(· exact HTB.out.later bcq);(· exact HST.out.later bcq);rintro e w8 ⟨rfl,hb8⟩;obtain ⟨_,_,_⟩:=bcs hb8 (w1.heap.size);obtain ⟨_,_,_⟩:=bcs hb8 (w2.heap.size);obtain ⟨_,_,_⟩:=bcs hb8 (w3.heap.size);obtain ⟨_,_,_⟩:=bcs hb8 (w6.heap.size)))
 go_wp2_with (first
  |(go_at_call 36;(with_reducible refine (M8.out a b c d _ ?_ ?_ ?_).mono ?_);(· exact HX.out.later bcq);(· exact HTB.out.later bcq);(· exact HST.out.later bcq);rintro e w9 ⟨rfl,hb9⟩;obtain ⟨_,_,_⟩:=bcs hb9 (w2.heap.size);obtain ⟨_,_,_⟩:=bcs hb9 (w3.heap.size);obtain ⟨_,_,_⟩:=bcs hb9 (w6.heap.size);obtain ⟨_,_,_⟩:=bcs hb9 (w8.heap.size))
  |(go_at_call 38;(with_reducible refine (Q1.out _).mono ?_);rintro e w10 ⟨rfl,hb10⟩;obtain ⟨_,_,_⟩:=bcs hb10 (w2.heap.size);obtain ⟨_,_,_⟩:=bcs hb10 (w3.heap.size);obtain ⟨_,_,_⟩:=bcs hb10 (w6.heap.size);obtain ⟨_,_,_⟩:=bcs hb10 (w8.heap.size))
  |(go_at_call 38;(with_reducible refine (Q2.out _).mono ?_);rintro e w11 ⟨rfl,hb11⟩;obtain ⟨_,_,_⟩:=bcs hb11 (w2.heap.size);obtain ⟨_,_,_⟩:=bcs hb11 (w3.heap.size);obtain ⟨_,_,_⟩:=bcs hb11 (w6.heap.size);obtain ⟨_,_,_⟩:=bcs hb11 (w8.heap.size))
  |(go_at_call 38;(with_reducible refine (Q3.out _).mono ?_);rintro e w12 ⟨rfl,hb12⟩;obtain ⟨_,_,_⟩:=bcs hb12 (w2.heap.size);obtain ⟨_,_,_⟩:=bcs hb12 (w3.heap.size);obtain ⟨_,_,_⟩:=bcs hb12 (w6.heap.size);obtain ⟨_,_,_⟩:=bcs hb12 (w8.heap.size))
  |(go_at_call 38;(with_reducible refine (Q4.out _).mono ?_);rintro e w13 ⟨rfl,hb13⟩;obtain ⟨_,_,_⟩:=bcs hb13 (w2.heap.size)))
 go_ret;exact ⟨rfl,bt hb1 bcq⟩
end L36
end
end Go.Proofs.YtgmfojgnjdpofaaGreatDoor
