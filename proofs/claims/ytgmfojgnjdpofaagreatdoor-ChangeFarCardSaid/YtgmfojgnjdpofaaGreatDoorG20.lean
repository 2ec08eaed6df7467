import Derived.Test.YtgmfojgnjdpofaaGreatDoorG19
import Derived.Test.YtgmfojgnjdpofaaGreatDoorRRule
namespace Go.Proofs.YtgmfojgnjdpofaaGreatDoor
section
open Go.RowKit NB
namespace RAt
open Rd RWd RNu RAm
def atV (a:Rd.AtV):Value:= .agg #[.int .i64 a.sec,.int .i64 a.base]
theorem AtText (a:Rd.AtV) (h0:0≤a.sec) (h1:a.sec≤172800) (h2:0≤a.base) (h3:a.base≤2) (w:World):Calls Tryz.prog 199 #[atV a] w fun e w'=>e= .returned (.tuple #[.string (textAt a),.int .i64 0])∧Below w.heap.size w w':=by
 have c1:=fun W=>RRule.ClockRight a.sec a.base W
 rw [show Rul.clockRight a.sec a.base=true from decide_eq_true ⟨h2,h3,h0,h1⟩] at c1
 have c2:=fun W=>AText a.sec (by omega) (by omega) W
 have s2:(ofL (textA a.sec)).size≤10:=by
  rw [ofL_size]
  exact textA_len (by omega) (by omega)
 unfold textAt atV
 obtain ⟨sec,b⟩:=a
 dsimp only at *
 generalize ofL (textA sec)=S at *
 have C1:=Lib.hid c1;have C2:=Lib.hid c2
 clear c1 c2
 rcases (by omega:b=0∨b=1∨b=2) with rfl|rfl|rfl
 ·have hb0:=Box.new w #[.int .i64 sec,.int .i64 0] 49
  rw [show letterAt 0=⟨#[]⟩ from rfl]
  have cat1:=fun W=>run_string_add_sum (P:=Tryz.prog) W S ⟨#[]⟩ (by show _+0≤_;omega)
  have t1:¬(9223372036854775807<S.size+(⟨#[]⟩:ByteArray).size):=by show ¬(_ < _+0);omega
  go_enter Tryz.func199,Tryz.ntmps199
  go_wp2_with (first
   |(go_at_call 237;(with_reducible refine (C1.out _).mono ?_);rintro e w1 ⟨rfl,hb1⟩;obtain ⟨hc1_0,hf1_0,hz1_0⟩:=bcs hb1 (w.heap.size))
   |(go_at_call 200;(with_reducible refine (C2.out _).mono ?_);rintro e w2 ⟨rfl,hb2⟩;obtain ⟨hc2_0,hf2_0,hz2_0⟩:=bcs hb2 (w.heap.size)))
  go_ret2
  exact ⟨rfl,bcq⟩
 ·have hb0:=Box.new w #[.int .i64 sec,.int .i64 1] 49
  rw [show letterAt 1=⟨#[115]⟩ from rfl]
  have cat1:=fun W=>run_string_add_sum (P:=Tryz.prog) W S ⟨#[115]⟩ (by show _+1≤_;omega)
  have t1:¬(9223372036854775807<S.size+(⟨#[115]⟩:ByteArray).size):=by show ¬(_ < _+1);omega
  go_enter Tryz.func199,Tryz.ntmps199
  go_wp2_with (first
   |(go_at_call 237;(with_reducible refine (C1.out _).mono ?_);rintro e w1 ⟨rfl,hb1⟩;obtain ⟨hc1_0,hf1_0,hz1_0⟩:=bcs hb1 (w.heap.size))
   |(go_at_call 200;(with_reducible refine (C2.out _).mono ?_);rintro e w2 ⟨rfl,hb2⟩;obtain ⟨hc2_0,hf2_0,hz2_0⟩:=bcs hb2 (w.heap.size)))
  go_ret2
  exact ⟨rfl,bcq⟩
 ·have hb0:=Box.new w #[.int .i64 sec,.int .i64 2] 49
  rw [show letterAt 2=⟨#[117]⟩ from rfl]
  have cat1:=fun W=>run_string_add_sum (P:=Tryz.prog) W S ⟨#[117]⟩ (by show _+1≤_;omega)
  have t1:¬(9223372036854775807<S.size+(⟨#[117]⟩:ByteArray).size):=by show ¬(_ < _+1);omega
  go_enter Tryz.func199,Tryz.ntmps199
  go_wp2_with (first
   |(go_at_call 237;(with_reducible refine (C1.out _).mono ?_);rintro e w1 ⟨rfl,hb1⟩;obtain ⟨hc1_0,hf1_0,hz1_0⟩:=bcs hb1 (w.heap.size))
   |(go_at_call 200;(with_reducible refine (C2.out _).mono ?_);rintro e w2 ⟨rfl,hb2⟩;obtain ⟨hc2_0,hf2_0,hz2_0⟩:=bcs hb2 (w.heap.size)))
  go_ret2
  exact ⟨rfl,bcq⟩
theorem last_facts (a:Rd.AtV) (h2:0≤a.base) (h3:a.base≤2):∃ (k:Nat) (c:UInt8),(textAt a).size=k+1∧(textAt a).data.toList[k]? =some c∧
 ((a.base=0∧isD c=true)∨(a.base=1∧c=115∧(textAt a).extract 0 k=ofL (textA a.sec))∨(a.base=2∧c=117∧(textAt a).extract 0 k=ofL (textA a.sec))):=by
 obtain ⟨l,c,e,hc⟩:=textA_last a.sec
 have key:∀ d:UInt8,(ofL (textA a.sec++[d])).size=(textA a.sec).length+1∧(ofL (textA a.sec++[d])).data.toList[(textA a.sec).length]? =some d∧(ofL (textA a.sec++[d])).extract 0 (textA a.sec).length=ofL (textA a.sec):=fun d=>by
  refine ⟨by rw [ofL_size];simp,by rw [ofL_list];simp,?_⟩
  rw [← ofL_self ((ofL (textA a.sec++[d])).extract 0 _),ext_list,ofL_list]
  simp
 rcases (by omega:a.base=0∨a.base=1∨a.base=2) with h|h|h
 ·have et:textAt a=ofL (l++[c]):=by
   unfold textAt
   rw [h,show letterAt 0= .empty from rfl,e]
   apply ByteArray.ext;simp
  refine ⟨l.length,c,?_,?_,.inl ⟨h,hc⟩⟩
  ·rw [et,ofL_size];simp
  ·rw [et,ofL_list];simp
 ·have et:textAt a=ofL (textA a.sec++[115]):=by
   unfold textAt
   rw [h, ←ofL_app];rfl
  rw [et]
  obtain ⟨k1,k2,k3⟩:=key 115
  exact ⟨_,115,k1,k2,.inr (.inl ⟨h,rfl,k3⟩)⟩
 ·have et:textAt a=ofL (textA a.sec++[117]):=by
   unfold textAt
   rw [h, ←ofL_app];rfl
  rw [et]
  obtain ⟨k1,k2,k3⟩:=key 117
  exact ⟨_,117,k1,k2,.inr (.inr ⟨h,rfl,k3⟩)⟩
set_option maxRecDepth 100000 in
set_option maxHeartbeats 6400000 in
theorem AtRead (a:Rd.AtV) (h0:0≤a.sec) (h1:a.sec≤172800) (h2:0≤a.base) (h3:a.base≤2) (w:World):Calls Tryz.prog 311 #[.string (textAt a)] w fun e w'=>e= .returned (.tuple #[atV a,.int .i64 0])∧Below w.heap.size w w':=by
 obtain ⟨k,c,e1,e2,hc⟩:=last_facts a h2 h3
 have hs0:(ofL (textA a.sec)).size≤1000000:=by
  rw [ofL_size]
  have:=textA_len (n:=a.sec) (by omega) (by omega)
  omega
 have hsT:(textAt a).size≤1000001:=by
  have hl:(letterAt a.base).size≤1:=by
   unfold letterAt
   split
   ·decide
   ·split<;>decide
  unfold textAt
  rw [ByteArray.size_append]
  omega
 have hra:=readA_textA a.sec (by omega) (by omega)
 have cr:=fun W=>RAm.Read (ofL (textA a.sec)) hs0 (by rw [hra]) W
 rw [hra] at cr
 have hlt:k<(textAt a).size:=by omega
 have hb:(textAt a)[k]=c:=by
  have:=bAt hlt
  rw [e2] at this
  exact (Option.some.inj this).symm
 have ht0:a.base=0→textAt a=ofL (textA a.sec):=fun h=>by
  unfold textAt
  rw [h,show letterAt 0= .empty from rfl]
  apply ByteArray.ext
  simp
 unfold atV
 obtain ⟨sec,b⟩:=a
 dsimp only at *
 generalize ofL (textA sec)=S at *
 generalize textAt ⟨sec,b⟩=T at *
 have C1:=Lib.hid cr
 have q1:(0:Int)<(T.size:Int):=by omega
 have q2:(T.size:Int)=(k:Int)+1:=by omega
 have q3:(k:Int)<(T.size:Int):=by omega
 have q5:(k:Int)≤1000000:=by omega
 rcases hc with ⟨rfl,hd⟩|⟨rfl,rfl,hx⟩|⟨rfl,rfl,hx⟩
 ·have f:∀ n:Int,57<n→((T[k].toNat:Int)==n)=false:=fun n hn=>by
   have:=of_decide_eq_true hd
   rw [hb,beq_eq_false_iff_ne]
   omega
  have f119:=f 119 (by decide)
  have f87:=f 87 (by decide)
  have f115:=f 115 (by decide)
  have f83:=f 83 (by decide)
  have f117:=f 117 (by decide)
  have f85:=f 85 (by decide)
  have f103:=f 103 (by decide)
  have f71:=f 71 (by decide)
  have f122:=f 122 (by decide)
  have f90:=f 90 (by decide)
  have ht:=ht0 rfl
  subst ht
  clear cr hra ht0 e2 hb hd f
  go_enter Tryz.func311,Tryz.ntmps311
  go_wp2_with (first
   |(go_at_call 303;(with_reducible refine (C1.out _).mono ?_);rintro e w1 ⟨rfl,hb1⟩;obtain ⟨hc1_0,hf1_0,hz1_0⟩:=bcs hb1 (w.heap.size);obtain ⟨hc1_1,hf1_1,hz1_1⟩:=bcs hb1 (w.heap.size+1)))
  refine bodyPost_ret (v:= .tuple #[.agg #[.int .i64 sec,.int .i64 0],.int .i64 0]) ?_ rfl ⟨rfl,?_⟩
  ·simp only [results,Tryz.results311]
   go_simp
  ·exact bcq
 ·have q4:(T[k].toNat:Int)=115:=by rw [hb];rfl
  clear cr hra ht0 e2 hb
  go_enter Tryz.func311,Tryz.ntmps311
  go_wp2_with (first
   |(go_at_call 303;(with_reducible refine (C1.out _).mono ?_);rintro e w1 ⟨rfl,hb1⟩;obtain ⟨hc1_0,hf1_0,hz1_0⟩:=bcs hb1 (w.heap.size);obtain ⟨hc1_1,hf1_1,hz1_1⟩:=bcs hb1 (w.heap.size+1)))
  refine bodyPost_ret (v:= .tuple #[.agg #[.int .i64 sec,.int .i64 1],.int .i64 0]) ?_ rfl ⟨rfl,?_⟩
  ·simp only [results,Tryz.results311]
   go_simp
  ·exact bcq
 ·have q4:(T[k].toNat:Int)=117:=by rw [hb];rfl
  clear cr hra ht0 e2 hb
  go_enter Tryz.func311,Tryz.ntmps311
  go_wp2_with (first
   |(go_at_call 303;(with_reducible refine (C1.out _).mono ?_);rintro e w1 ⟨rfl,hb1⟩;obtain ⟨hc1_0,hf1_0,hz1_0⟩:=bcs hb1 (w.heap.size);obtain ⟨hc1_1,hf1_1,hz1_1⟩:=bcs hb1 (w.heap.size+1)))
  refine bodyPost_ret (v:= .tuple #[.agg #[.int .i64 sec,.int .i64 2],.int .i64 0]) ?_ rfl ⟨rfl,?_⟩
  ·simp only [results,Tryz.results311]
   go_simp
  ·exact bcq
end RAt
end
section
open Go.RowKit NB
namespace RDs
open Rd RWd RNu RYe
theorem on_bounds {o:Rd.OnV} (h:rightOn o=true):0≤o.week∧o.week≤6∧0≤o.day∧o.day≤31∧(o.kind=0∨o.kind=1∨o.kind=2∨o.kind=3):=by
 have:=(Day.onRight_iff o.kind o.week o.day).1 (by rw [← on_right];exact h)
 omega
theorem textW_size (m:Int) (h0:0≤m) (h1:m≤6):(textW m).size=3:=by
 rcases (by omega:m=0∨m=1∨m=2∨m=3∨m=4∨m=5∨m=6) with rfl|rfl|rfl|rfl|rfl|rfl|rfl
 all_goals decide
set_option maxHeartbeats 3200000 in
theorem OText (o:Rd.OnV) (h:rightOn o=true) (w:World):Calls Tryz.prog 198 #[onV o] w fun e w'=>e= .returned (.tuple #[.string (textOn o),.int .i64 0])∧Below w.heap.size w w':=by
 obtain ⟨h0,h1,h2,h3,hk⟩:=on_bounds h
 have c1:=fun W=>RDay.Right o.kind o.week o.day W
 rw [← on_right,h] at c1
 have c2:=fun W=>WeekdayText o.week h0 h1 W
 have c3:=fun W=>Text o.day (by omega) (by omega) W
 have s2:=textW_size o.week h0 h1
 have s3:(ofL (textN o.day)).size≤7:=by
  rw [ofL_size]
  exact textN_len (by omega) (by omega)
 unfold textOn onV
 obtain ⟨k,wk,d⟩:=o
 dsimp only at *
 generalize textW wk=W1 at *
 generalize ofL (textN d)=N1 at *
 have z1:(W1++⟨#[62,61]⟩).size=W1.size+2:=ByteArray.size_append
 have z2:(W1++⟨#[60,61]⟩).size=W1.size+2:=ByteArray.size_append
 have cat1:=fun W=>run_string_add_sum (P:=Tryz.prog) W ⟨#[108,97,115,116]⟩ W1 (by show 4+_≤_;omega)
 have cat2:=fun W=>run_string_add_sum (P:=Tryz.prog) W W1 ⟨#[62,61]⟩ (by show _+2≤_;omega)
 have cat3:=fun W=>run_string_add_sum (P:=Tryz.prog) W W1 ⟨#[60,61]⟩ (by show _+2≤_;omega)
 have cat4:=fun W=>run_string_add_sum (P:=Tryz.prog) W (W1++⟨#[62,61]⟩) N1 (by omega)
 have cat5:=fun W=>run_string_add_sum (P:=Tryz.prog) W (W1++⟨#[60,61]⟩) N1 (by omega)
 have C1:=Lib.hid c1;have C2:=Lib.hid c2;have C3:=Lib.hid c3
 have t1:¬(9223372036854775807<(⟨#[108,97,115,116]⟩:ByteArray).size+W1.size):=by show ¬(_ < 4+_);omega
 have t2:¬(9223372036854775807<W1.size+(⟨#[62,61]⟩:ByteArray).size):=by show ¬(_ < _+2);omega
 have t3:¬(9223372036854775807<W1.size+(⟨#[60,61]⟩:ByteArray).size):=by show ¬(_ < _+2);omega
 have t4:¬(9223372036854775807<(W1++⟨#[62,61]⟩).size+N1.size):=by omega
 have t5:¬(9223372036854775807<(W1++⟨#[60,61]⟩).size+N1.size):=by omega
 clear c1 c2 c3 h z1 z2 s2 s3
 rcases hk with rfl|rfl|rfl|rfl
 ·have hb0:=Box.new w #[.int .i64 0,.int .i64 wk,.int .i64 d] 47
  go_enter Tryz.func198,Tryz.ntmps198
  go_upto_region 3 with (go_at_call 247;(with_reducible refine (C1.out _).mono ?_);rintro e w1 ⟨rfl,hb1⟩;obtain ⟨hc1_0,hf1_0,hz1_0⟩:=bcs hb1 (w.heap.size))
  have hbx:Box w1 w.heap.size #[.int .i64 0,.int .i64 wk,.int .i64 d] 47:=hb0.later hb1
  (refine region_later (by kernel_rfl) (by kernel_rfl) ?_;(repeat (go_big_quiet_step (first|(go_at_call 248;rename_i xL;apply calls_later xL (Nat.le_refl _);exact (C2.out _))|(go_at_call 204;rename_i xL;apply calls_later xL (Nat.le_refl _);exact (C3.out _)))));refine wpQuiet_nil ?_;rintro uq2 ⟨xU,eU⟩;have huq2:=xU.h;rw [← eU] at huq2;clear eU xU)
  have hbq:Box uq2 w.heap.size #[.int .i64 0,.int .i64 wk,.int .i64 d] 47:=hbx.later huq2
  have c0:=hbq.cell
  have hm0:=hbq.lt
  go_wp2
  go_ret2
  exact ⟨rfl,bcq⟩
 ·have hb0:=Box.new w #[.int .i64 1,.int .i64 wk,.int .i64 d] 47
  go_enter Tryz.func198,Tryz.ntmps198
  go_upto_region 3 with (go_at_call 247;(with_reducible refine (C1.out _).mono ?_);rintro e w1 ⟨rfl,hb1⟩;obtain ⟨hc1_0,hf1_0,hz1_0⟩:=bcs hb1 (w.heap.size))
  have hbx:Box w1 w.heap.size #[.int .i64 1,.int .i64 wk,.int .i64 d] 47:=hb0.later hb1
  (refine region_later (by kernel_rfl) (by kernel_rfl) ?_;(repeat (go_big_quiet_step (first|(go_at_call 248;rename_i xL;apply calls_later xL (Nat.le_refl _);exact (C2.out _))|(go_at_call 204;rename_i xL;apply calls_later xL (Nat.le_refl _);exact (C3.out _)))));refine wpQuiet_nil ?_;rintro uq2 ⟨xU,eU⟩;have huq2:=xU.h;rw [← eU] at huq2;clear eU xU)
  have hbq:Box uq2 w.heap.size #[.int .i64 1,.int .i64 wk,.int .i64 d] 47:=hbx.later huq2
  have c0:=hbq.cell
  have hm0:=hbq.lt
  go_wp2
  go_ret2
  exact ⟨rfl,bcq⟩
 ·have hb0:=Box.new w #[.int .i64 2,.int .i64 wk,.int .i64 d] 47
  go_enter Tryz.func198,Tryz.ntmps198
  go_upto_region 3 with (go_at_call 247;(with_reducible refine (C1.out _).mono ?_);rintro e w1 ⟨rfl,hb1⟩;obtain ⟨hc1_0,hf1_0,hz1_0⟩:=bcs hb1 (w.heap.size))
  have hbx:Box w1 w.heap.size #[.int .i64 2,.int .i64 wk,.int .i64 d] 47:=hb0.later hb1
  (refine region_later (by kernel_rfl) (by kernel_rfl) ?_;(repeat (go_big_quiet_step (first|(go_at_call 248;rename_i xL;apply calls_later xL (Nat.le_refl _);exact (C2.out _))|(go_at_call 204;rename_i xL;apply calls_later xL (Nat.le_refl _);exact (C3.out _)))));refine wpQuiet_nil ?_;rintro uq2 ⟨xU,eU⟩;have huq2:=xU.h;rw [← eU] at huq2;clear eU xU)
  have hbq:Box uq2 w.heap.size #[.int .i64 2,.int .i64 wk,.int .i64 d] 47:=hbx.later huq2
  have c0:=hbq.cell
  have hm0:=hbq.lt
  go_wp2
  go_ret2
  exact ⟨rfl,bcq⟩
 ·have hb0:=Box.new w #[.int .i64 3,.int .i64 wk,.int .i64 d] 47
  go_enter Tryz.func198,Tryz.ntmps198
  go_upto_region 3 with (go_at_call 247;(with_reducible refine (C1.out _).mono ?_);rintro e w1 ⟨rfl,hb1⟩;obtain ⟨hc1_0,hf1_0,hz1_0⟩:=bcs hb1 (w.heap.size))
  have hbx:Box w1 w.heap.size #[.int .i64 3,.int .i64 wk,.int .i64 d] 47:=hb0.later hb1
  (refine region_later (by kernel_rfl) (by kernel_rfl) ?_;(repeat (go_big_quiet_step (first|(go_at_call 248;rename_i xL;apply calls_later xL (Nat.le_refl _);exact (C2.out _))|(go_at_call 204;rename_i xL;apply calls_later xL (Nat.le_refl _);exact (C3.out _)))));refine wpQuiet_nil ?_;rintro uq2 ⟨xU,eU⟩;have huq2:=xU.h;rw [← eU] at huq2;clear eU xU)
  have hbq:Box uq2 w.heap.size #[.int .i64 3,.int .i64 wk,.int .i64 d] 47:=hbx.later huq2
  have c0:=hbq.cell
  have hm0:=hbq.lt
  go_wp2
  go_ret2
  exact ⟨rfl,bcq⟩
end RDs
end
section
open Go.RowKit NB
namespace RDs
open Rd RWd RNu RYe
theorem on_ok {s:ByteArray} (h:(readOn s).2=0):
 (∃ p:Nat,signB s=(p:Int)∧p+1<s.size∧s.data.toList[p+1]? =some 61∧(readW (s.extract 0 p)).2=0∧(readDay (s.extract (p+2) s.size)).2=0∧
   (readOn s).1=⟨if s.data.toList[p]? =some 60 then 3 else 2,(readW (s.extract 0 p)).1,(readDay (s.extract (p+2) s.size)).1⟩)∨
 (¬ 0≤signB s∧numeral s=true∧(readDay s).2=0∧(readOn s).1=⟨0,0,(readDay s).1⟩)∨
 (¬ 0≤signB s∧numeral s=false∧4≤s.size∧same (s.extract 0 4) lastW=true∧(readW (s.extract 4 s.size)).2=0∧(readOn s).1=⟨1,(readW (s.extract 4 s.size)).1,0⟩):=by
 unfold readOn at h ⊢
 by_cases h1:0≤signB s
 ·rw [if_pos h1] at h ⊢
  refine .inl ⟨(signB s).toNat,by omega,?_⟩
  unfold readSign at h ⊢
  by_cases h2:s.data.toList[(signB s).toNat+1]? =some 61
  ·rw [if_pos h2] at h ⊢
   by_cases h3:(readW (s.extract 0 (signB s).toNat)).2=0
   ·rw [if_pos h3] at h ⊢
    by_cases h4:(readDay (s.extract ((signB s).toNat+2) s.size)).2=0
    ·rw [if_pos h4]
     have:=(List.getElem?_eq_some_iff.1 h2).1
     rw [len_list] at this
     exact ⟨this,h2,h3,h4,rfl⟩
    ·rw [if_neg h4] at h;exact absurd h h4
   ·rw [if_neg h3] at h;exact absurd h h3
  ·rw [if_neg h2] at h;cases h
 ·rw [if_neg h1] at h ⊢
  by_cases h2:numeral s=true
  ·rw [if_pos h2] at h ⊢
   by_cases h3:(readDay s).2=0
   ·rw [if_pos h3];exact .inr (.inl ⟨h1,h2,h3,rfl⟩)
   ·rw [if_neg h3] at h;exact absurd h h3
  ·rw [if_neg h2] at h ⊢
   by_cases h3:4≤s.size∧same (s.extract 0 4) lastW=true
   ·rw [if_pos h3] at h ⊢
    by_cases h4:(readW (s.extract 4 s.size)).2=0
    ·rw [if_pos h4]
     exact .inr (.inr ⟨h1,by simpa using h2,h3.1,h3.2,h4,rfl⟩)
    ·rw [if_neg h4] at h;exact absurd h h4
   ·rw [if_neg h3] at h;cases h
theorem at_byte {s:ByteArray} {k:Nat} (h:k<s.size) {c:UInt8}:s.data.toList[k]? =some c↔s[k]=c:=by
 rw [bAt h,Option.some.injEq]
set_option maxRecDepth 100000 in
set_option maxHeartbeats 6400000 in
theorem ORead (s:ByteArray) (hs:s.size≤1000000) (h:(readOn s).2=0) (w:World):Calls Tryz.prog 332 #[.string s] w fun e w'=>e= .returned (.tuple #[onV (readOn s).1,.int .i64 0])∧Below w.heap.size w w':=by
 have cs:=fun W=>sign s hs W
 rcases on_ok h with ⟨p,e1,h1,h2,h3,h4,h5⟩|⟨h1,h2,h3,h5⟩|⟨h1,h2,h3,h4,h6,h5⟩
 ·rw [h5]
  rw [e1] at cs
  have x1:(s.extract 0 p).size≤1000000:=by rw [ByteArray.size_extract];omega
  have x2:(s.extract (p+2) s.size).size≤1000000:=by rw [ByteArray.size_extract];omega
  have c1:=fun W=>Weekday (s.extract 0 p) x1 W
  have c2:=fun W=>day (s.extract (p+2) s.size) x2 h4 W
  rw [h3] at c1
  have q1:(s[p+1].toNat:Int)=61:=by rw [(at_byte h1).1 h2];rfl
  have hp:p<s.size:=by omega
  generalize (readW (s.extract 0 p)).1=wk at *
  generalize (readDay (s.extract (p+2) s.size)).1=d at *
  have C0:=Lib.hid cs;have C1:=Lib.hid c1;have C2:=Lib.hid c2
  have q2:(p:Int)+1<(s.size:Int):=by omega
  unfold onV
  by_cases hk:s.data.toList[p]? =some 60
  ·rw [if_pos hk]
   have q3:((s[p].toNat:Int)==60)=true:=u8_eq 60 ((at_byte hp).1 hk)
   clear cs c1 c2 h h2 h3 h4 h5 hk e1 x1 x2
   go_enter Tryz.func332,Tryz.ntmps332
   go_wp2_with (first
    |(go_at_call 341;(with_reducible refine (C0.out _).mono ?_);rintro e w' ⟨rfl,rfl⟩)
    |(go_at_call 342;(with_reducible refine (C1.out _).mono ?_);rintro e w1 ⟨rfl,hb1⟩;obtain ⟨hc1_0,hf1_0,hz1_0⟩:=bcs hb1 (w.heap.size))
    |(go_at_call 343;(with_reducible refine (C2.out _).mono ?_);rintro e w' ⟨rfl,rfl⟩))
   refine bodyPost_ret (v:= .tuple #[.agg #[.int .i64 3,.int .i64 wk,.int .i64 d],.int .i64 0]) ?_ rfl ⟨rfl,?_⟩
   ·simp only [results,Tryz.results332]
    go_simp
   ·exact bcq
  ·rw [if_neg hk]
   have q3:((s[p].toNat:Int)==60)=false:=u8_ne 60 (fun e=>hk ((at_byte hp).2 e))
   clear cs c1 c2 h h2 h3 h4 h5 hk e1 x1 x2
   go_enter Tryz.func332,Tryz.ntmps332
   go_wp2_with (first
    |(go_at_call 341;(with_reducible refine (C0.out _).mono ?_);rintro e w' ⟨rfl,rfl⟩)
    |(go_at_call 342;(with_reducible refine (C1.out _).mono ?_);rintro e w1 ⟨rfl,hb1⟩;obtain ⟨hc1_0,hf1_0,hz1_0⟩:=bcs hb1 (w.heap.size))
    |(go_at_call 343;(with_reducible refine (C2.out _).mono ?_);rintro e w' ⟨rfl,rfl⟩))
   refine bodyPost_ret (v:= .tuple #[.agg #[.int .i64 2,.int .i64 wk,.int .i64 d],.int .i64 0]) ?_ rfl ⟨rfl,?_⟩
   ·simp only [results,Tryz.results332]
    go_simp
   ·exact bcq
 ·rw [h5]
  have c1:=fun W=>day s hs h3 W
  generalize (readDay s).1=d at *
  generalize signB s=p at *
  have C0:=Lib.hid cs;have C1:=Lib.hid c1
  unfold onV
  rcases num_facts s with ⟨g,_⟩|⟨_,e1,r1,r2⟩
  ·rw [h2] at g;cases g
  ·have r3:=r2 r1
   clear cs c1 h h2 h3 h5 r2
   rcases r3 with r3|⟨r3,r4,r5⟩
   all_goals
    go_enter Tryz.func332,Tryz.ntmps332
    go_wp2_with (first
     |(go_at_call 341;(with_reducible refine (C0.out _).mono ?_);rintro e w' ⟨rfl,rfl⟩)
     |(go_at_call 343;(with_reducible refine (C1.out _).mono ?_);rintro e w' ⟨rfl,rfl⟩))
    refine bodyPost_ret (v:= .tuple #[.agg #[.int .i64 0,.int .i64 0,.int .i64 d],.int .i64 0]) ?_ rfl ⟨rfl,?_⟩
    ·simp only [results,Tryz.results332]
     go_simp
    ·exact bcq
 ·rw [h5]
  have x1:(s.extract 4 s.size).size≤1000000:=by rw [ByteArray.size_extract];omega
  have x2:(s.extract 0 4).size≤1000000:=by rw [ByteArray.size_extract];omega
  have c1:=fun W=>Weekday (s.extract 4 s.size) x1 W
  have c2:=fun W=>Same (s.extract 0 4) lastW (by omega) W
  rw [h6] at c1
  rw [h4] at c2
  generalize (readW (s.extract 4 s.size)).1=wk at *
  generalize signB s=p at *
  unfold lastW at c2
  have C0:=Lib.hid cs;have C1:=Lib.hid c1;have C2:=Lib.hid c2
  unfold onV
  have hsz:(4:Int)≤(s.size:Int):=by omega
  rcases num_facts s with ⟨_,e1|⟨e1,r1,r2⟩⟩|⟨g,_⟩
  ·exfalso
   have:s.toList=[]:=List.isEmpty_iff.1 e1
   rw [ByteArray.toList_eq] at this
   have h0:s.size=0:=by rw [← len_list,this];rfl
   omega
  ·obtain ⟨r3,r4⟩:=r2 r1
   clear cs c1 c2 h h2 h4 h5 h6 r2 x1 x2
   rcases r4 with r4|⟨r4,r5⟩
   all_goals
    (try have r6:¬(s[0].toNat:Int)≤57:=by omega)
    go_enter Tryz.func332,Tryz.ntmps332
    go_wp2_with (first
     |(go_at_call 341;(with_reducible refine (C0.out _).mono ?_);rintro e w' ⟨rfl,rfl⟩)
     |(go_at_call 291;(with_reducible refine (C2.out _).mono ?_);rintro e w2 ⟨rfl,hb2⟩;obtain ⟨hc2_0,hf2_0,hz2_0⟩:=bcs hb2 (w.heap.size))
     |(go_at_call 342;(with_reducible refine (C1.out _).mono ?_);rintro e w1 ⟨rfl,hb1⟩;obtain ⟨hc1_0,hf1_0,hz1_0⟩:=bcs hb1 (w.heap.size)))
    refine bodyPost_ret (v:= .tuple #[.agg #[.int .i64 1,.int .i64 wk,.int .i64 0],.int .i64 0]) ?_ rfl ⟨rfl,?_⟩
    ·simp only [results,Tryz.results332]
     go_simp
    ·exact bcq
  ·rw [h2] at g;cases g
end RDs
end
end Go.Proofs.YtgmfojgnjdpofaaGreatDoor
