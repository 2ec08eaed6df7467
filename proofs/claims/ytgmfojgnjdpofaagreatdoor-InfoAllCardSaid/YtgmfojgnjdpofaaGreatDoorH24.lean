import Derived.Test.YtgmfojgnjdpofaaGreatDoorH23
import Derived.Test.YtgmfojgnjdpofaaGreatDoorH10
import Derived.Test.YtgmfojgnjdpofaaGreatDoorH22
namespace Go.Proofs.YtgmfojgnjdpofaaGreatDoor
open Go.Proofs.Tryz
section
open Go.RowKit NB
namespace RAt
open Rd RWd RNu RAm
def atV (a:Rd.AtV):Value:=.agg #[.int .i64 a.sec,.int .i64 a.base]
theorem AtText (a:Rd.AtV) (h0:0≤a.sec) (h1:a.sec≤172800) (h2:0≤a.base) (h3:a.base≤2) (w:World):Calls prog 199 #[atV a] w fun e w'=>e=.returned (.tuple #[.string (textAt a),.int .i64 0])∧Below w.heap.size w w':=by
 have c1:=fun W=>RRule.ClockRight a.sec a.base W;rw [show Rul.clockRight a.sec a.base=true from decide_eq_true ⟨h2,h3,h0,h1⟩] at c1;have c2:=fun W=>AText a.sec (by omega) (by omega) W;have s2:(ofL (textA a.sec)).size≤10:=by
  rw [ofL_size];exact textA_len (by omega) (by omega)
 unfold textAt atV;obtain ⟨sec,b⟩:=a;dsimp only at *;generalize ofL (textA sec)=S at *;have C1:=kj c1;have C2:=kj c2;clear c1 c2;rcases (by omega:b=0∨b=1∨b=2) with rfl|rfl|rfl
 ·have hb0:=Box.new w #[.int .i64 sec,.int .i64 0] 49;rw [show letterAt 0=⟨#[]⟩ from rfl];have cat1:=fun W=>run_string_add_sum (P:=prog) W S ⟨#[]⟩ (by show _+0≤_;omega);have t1:¬(9223372036854775807<S.size+(⟨#[]⟩:ByteArray).size):=by show ¬(_ < _+0);omega
  go_enter func199,ntmps199
  go_wp2_with (first
   |(go_at_call 237;(with_reducible refine (C1.out _).mono ?_);rintro e w1 ⟨rfl,hb1⟩;obtain ⟨hc1_0,hf1_0,hz1_0⟩:=bcs hb1 (w.heap.size))
   |(go_at_call 200;(with_reducible refine (C2.out _).mono ?_);rintro e w2 ⟨rfl,hb2⟩;obtain ⟨hc2_0,hf2_0,hz2_0⟩:=bcs hb2 (w.heap.size)))
  go_ret2;exact ⟨rfl,bcq⟩
 ·have hb0:=Box.new w #[.int .i64 sec,.int .i64 1] 49;rw [show letterAt 1=⟨#[115]⟩ from rfl];have cat1:=fun W=>run_string_add_sum (P:=prog) W S ⟨#[115]⟩ (by show _+1≤_;omega);have t1:¬(9223372036854775807<S.size+(⟨#[115]⟩:ByteArray).size):=by show ¬(_ < _+1);omega
  go_enter func199,ntmps199
  go_wp2_with (first
   |(go_at_call 237;(with_reducible refine (C1.out _).mono ?_);rintro e w1 ⟨rfl,hb1⟩;obtain ⟨hc1_0,hf1_0,hz1_0⟩:=bcs hb1 (w.heap.size))
   |(go_at_call 200;(with_reducible refine (C2.out _).mono ?_);rintro e w2 ⟨rfl,hb2⟩;obtain ⟨hc2_0,hf2_0,hz2_0⟩:=bcs hb2 (w.heap.size)))
  go_ret2;exact ⟨rfl,bcq⟩
 ·have hb0:=Box.new w #[.int .i64 sec,.int .i64 2] 49;rw [show letterAt 2=⟨#[117]⟩ from rfl];have cat1:=fun W=>run_string_add_sum (P:=prog) W S ⟨#[117]⟩ (by show _+1≤_;omega);have t1:¬(9223372036854775807<S.size+(⟨#[117]⟩:ByteArray).size):=by show ¬(_ < _+1);omega
  go_enter func199,ntmps199
  go_wp2_with (first
   |(go_at_call 237;(with_reducible refine (C1.out _).mono ?_);rintro e w1 ⟨rfl,hb1⟩;obtain ⟨hc1_0,hf1_0,hz1_0⟩:=bcs hb1 (w.heap.size))
   |(go_at_call 200;(with_reducible refine (C2.out _).mono ?_);rintro e w2 ⟨rfl,hb2⟩;obtain ⟨hc2_0,hf2_0,hz2_0⟩:=bcs hb2 (w.heap.size)))
  go_ret2;exact ⟨rfl,bcq⟩
theorem last_facts (a:Rd.AtV) (h2:0≤a.base) (h3:a.base≤2):∃ (k:Nat) (c:UInt8),(textAt a).size=k+1∧(textAt a).data.toList[k]? =some c∧
 ((a.base=0∧isD c=true)∨(a.base=1∧c=115∧(textAt a).extract 0 k=ofL (textA a.sec))∨(a.base=2∧c=117∧(textAt a).extract 0 k=ofL (textA a.sec))):=by
 obtain ⟨l,c,e,hc⟩:=textA_last a.sec;have key:∀ d:UInt8,(ofL (textA a.sec++[d])).size=(textA a.sec).length+1∧(ofL (textA a.sec++[d])).data.toList[(textA a.sec).length]? =some d∧(ofL (textA a.sec++[d])).extract 0 (textA a.sec).length=ofL (textA a.sec):=fun d=>by
  refine ⟨by rw [ofL_size];simp,by rw [ofL_list];simp,?_⟩;rw [← ofL_self ((ofL (textA a.sec++[d])).extract 0 _),ext_list,ofL_list];simp
 rcases (by omega:a.base=0∨a.base=1∨a.base=2) with h|h|h
 ·have et:textAt a=ofL (l++[c]):=by
   unfold textAt;rw [h,show letterAt 0=.empty from rfl,e];apply ByteArray.ext;simp
  refine ⟨l.length,c,?_,?_,.inl ⟨h,hc⟩⟩
  ·rw [et,ofL_size];simp
  ·rw [et,ofL_list];simp
 ·have et:textAt a=ofL (textA a.sec++[115]):=by
   unfold textAt;rw [h, ←ofL_app];rfl
  rw [et];obtain ⟨k1,k2,k3⟩:=key 115;exact ⟨_,115,k1,k2,.inr (.inl ⟨h,rfl,k3⟩)⟩
 ·have et:textAt a=ofL (textA a.sec++[117]):=by
   unfold textAt;rw [h, ←ofL_app];rfl
  rw [et];obtain ⟨k1,k2,k3⟩:=key 117;exact ⟨_,117,k1,k2,.inr (.inr ⟨h,rfl,k3⟩)⟩
set_option maxRecDepth 100000 in
set_option maxHeartbeats 6400000 in
theorem AtRead (a:Rd.AtV) (h0:0≤a.sec) (h1:a.sec≤172800) (h2:0≤a.base) (h3:a.base≤2) (w:World):Calls prog 311 #[.string (textAt a)] w fun e w'=>e=.returned (.tuple #[atV a,.int .i64 0])∧Below w.heap.size w w':=by
 obtain ⟨k,c,e1,e2,hc⟩:=last_facts a h2 h3;have hs0:(ofL (textA a.sec)).size≤1000000:=by
  rw [ofL_size];have:=textA_len (n:=a.sec) (by omega) (by omega);omega
 have hsT:(textAt a).size≤1000001:=by
  have hl:(letterAt a.base).size≤1:=by
   unfold letterAt
   split
   ·decide
   ·split<;>decide
  unfold textAt;rw [ByteArray.size_append];omega
 have hra:=readA_textA a.sec (by omega) (by omega);have cr:=fun W=>RAm.Read (ofL (textA a.sec)) hs0 (by rw [hra]) W;rw [hra] at cr;have hlt:k<(textAt a).size:=by omega
 have hb:(textAt a)[k]=c:=by
  have:=bAt hlt;rw [e2] at this;exact (Option.some.inj this).symm
 have ht0:a.base=0→textAt a=ofL (textA a.sec):=fun h=>by
  unfold textAt;rw [h,show letterAt 0=.empty from rfl];apply ByteArray.ext;simp
 unfold atV;obtain ⟨sec,b⟩:=a;dsimp only at *;generalize ofL (textA sec)=S at *;generalize textAt ⟨sec,b⟩=T at *;have C1:=kj cr;have q1:(0:Int)<(T.size:Int):=by omega
 have q2:(T.size:Int)=(k:Int)+1:=by omega
 have q3:(k:Int)<(T.size:Int):=by omega
 have q5:(k:Int)≤1000000:=by omega
 rcases hc with ⟨rfl,hd⟩|⟨rfl,rfl,hx⟩|⟨rfl,rfl,hx⟩
 ·have f:∀ n:Int,57<n→((T[k].toNat:Int)==n)=false:=fun n hn=>by
   have:=of_decide_eq_true hd;rw [hb,beq_eq_false_iff_ne];omega
  have f119:=f 119 (by decide);have f87:=f 87 (by decide);have f115:=f 115 (by decide);have f83:=f 83 (by decide);have f117:=f 117 (by decide);have f85:=f 85 (by decide);have f103:=f 103 (by decide);have f71:=f 71 (by decide);have f122:=f 122 (by decide);have f90:=f 90 (by decide);have ht:=ht0 rfl;subst ht;clear cr hra ht0 e2 hb hd f;go_enter func311,ntmps311
  go_wp2_with (first
   |(go_at_call 303;(with_reducible refine (C1.out _).mono ?_);rintro e w1 ⟨rfl,hb1⟩;obtain ⟨hc1_0,hf1_0,hz1_0⟩:=bcs hb1 (w.heap.size);obtain ⟨hc1_1,hf1_1,hz1_1⟩:=bcs hb1 (w.heap.size+1)))
  refine bodyPost_ret (v:=.tuple #[.agg #[.int .i64 sec,.int .i64 0],.int .i64 0]) ?_ rfl ⟨rfl,?_⟩
  ·simp only [results,results311];go_simp
  ·exact bcq
 ·have q4:(T[k].toNat:Int)=115:=by rw [hb];rfl
  clear cr hra ht0 e2 hb;go_enter func311,ntmps311
  go_wp2_with (first
   |(go_at_call 303;(with_reducible refine (C1.out _).mono ?_);rintro e w1 ⟨rfl,hb1⟩;obtain ⟨hc1_0,hf1_0,hz1_0⟩:=bcs hb1 (w.heap.size);obtain ⟨hc1_1,hf1_1,hz1_1⟩:=bcs hb1 (w.heap.size+1)))
  refine bodyPost_ret (v:=.tuple #[.agg #[.int .i64 sec,.int .i64 1],.int .i64 0]) ?_ rfl ⟨rfl,?_⟩
  ·simp only [results,results311];go_simp
  ·exact bcq
 ·have q4:(T[k].toNat:Int)=117:=by rw [hb];rfl
  clear cr hra ht0 e2 hb;go_enter func311,ntmps311
  go_wp2_with (first
   |(go_at_call 303;(with_reducible refine (C1.out _).mono ?_);rintro e w1 ⟨rfl,hb1⟩;obtain ⟨hc1_0,hf1_0,hz1_0⟩:=bcs hb1 (w.heap.size);obtain ⟨hc1_1,hf1_1,hz1_1⟩:=bcs hb1 (w.heap.size+1)))
  refine bodyPost_ret (v:=.tuple #[.agg #[.int .i64 sec,.int .i64 2],.int .i64 0]) ?_ rfl ⟨rfl,?_⟩
  ·simp only [results,results311];go_simp
  ·exact bcq
end RAt
end
section
open Go.RowKit NB
namespace RDs
open Rd RWd RNu RYe
theorem on_bounds {o:Rd.OnV} (h:rightOn o=true):0≤o.week∧o.week≤6∧0≤o.day∧o.day≤31∧(o.kind=0∨o.kind=1∨o.kind=2∨o.kind=3):=by
 have:=(Day.onRight_iff o.kind o.week o.day).1 (by rw [← on_right];exact h);omega
theorem textW_size (m:Int) (h0:0≤m) (h1:m≤6):(textW m).size=3:=by
 rcases (by omega:m=0∨m=1∨m=2∨m=3∨m=4∨m=5∨m=6) with rfl|rfl|rfl|rfl|rfl|rfl|rfl
 all_goals decide
set_option maxHeartbeats 3200000 in
theorem OText (o:Rd.OnV) (h:rightOn o=true) (w:World):Calls prog 198 #[onV o] w fun e w'=>e=.returned (.tuple #[.string (textOn o),.int .i64 0])∧Below w.heap.size w w':=by
 obtain ⟨h0,h1,h2,h3,hk⟩:=on_bounds h;have c1:=fun W=>RDay.Right o.kind o.week o.day W;rw [← on_right,h] at c1;have c2:=fun W=>WeekdayText o.week h0 h1 W;have c3:=fun W=>Text o.day (by omega) (by omega) W;have s2:=textW_size o.week h0 h1;have s3:(ofL (textN o.day)).size≤7:=by
  rw [ofL_size];exact textN_len (by omega) (by omega)
 unfold textOn onV;obtain ⟨k,wk,d⟩:=o;dsimp only at *;generalize textW wk=W1 at *;generalize ofL (textN d)=N1 at *;have z1:(W1++⟨#[62,61]⟩).size=W1.size+2:=ByteArray.size_append;have z2:(W1++⟨#[60,61]⟩).size=W1.size+2:=ByteArray.size_append;have cat1:=fun W=>run_string_add_sum (P:=prog) W ⟨#[108,97,115,116]⟩ W1 (by show 4+_≤_;omega);have cat2:=fun W=>run_string_add_sum (P:=prog) W W1 ⟨#[62,61]⟩ (by show _+2≤_;omega);have cat3:=fun W=>run_string_add_sum (P:=prog) W W1 ⟨#[60,61]⟩ (by show _+2≤_;omega);have cat4:=fun W=>run_string_add_sum (P:=prog) W (W1++⟨#[62,61]⟩) N1 (by omega);have cat5:=fun W=>run_string_add_sum (P:=prog) W (W1++⟨#[60,61]⟩) N1 (by omega);have C1:=kj c1;have C2:=kj c2;have C3:=kj c3;have t1:¬(9223372036854775807<(⟨#[108,97,115,116]⟩:ByteArray).size+W1.size):=by show ¬(_ < 4+_);omega
 have t2:¬(9223372036854775807<W1.size+(⟨#[62,61]⟩:ByteArray).size):=by show ¬(_ < _+2);omega
 have t3:¬(9223372036854775807<W1.size+(⟨#[60,61]⟩:ByteArray).size):=by show ¬(_ < _+2);omega
 have t4:¬(9223372036854775807<(W1++⟨#[62,61]⟩).size+N1.size):=by omega
 have t5:¬(9223372036854775807<(W1++⟨#[60,61]⟩).size+N1.size):=by omega
 clear c1 c2 c3 h z1 z2 s2 s3;rcases hk with rfl|rfl|rfl|rfl
 ·have hb0:=Box.new w #[.int .i64 0,.int .i64 wk,.int .i64 d] 47;go_enter func198,ntmps198
  go_upto_region 3 with (go_at_call 247;(with_reducible refine (C1.out _).mono ?_);rintro e w1 ⟨rfl,hb1⟩;obtain ⟨hc1_0,hf1_0,hz1_0⟩:=bcs hb1 (w.heap.size))
  have hbx:Box w1 w.heap.size #[.int .i64 0,.int .i64 wk,.int .i64 d] 47:=hb0.later hb1
  (refine region_later (by kernel_rfl) (by kernel_rfl) ?_;(repeat (go_big_quiet_step (first|(go_at_call 248;rename_i xL;apply calls_later xL (Nat.le_refl _);exact (C2.out _))|(go_at_call 204;rename_i xL;apply calls_later xL (Nat.le_refl _);exact (C3.out _)))));refine wpQuiet_nil ?_;rintro uq2 ⟨xU,eU⟩;have huq2:=xU.h;rw [← eU] at huq2;clear eU xU)
  have hbq:Box uq2 w.heap.size #[.int .i64 0,.int .i64 wk,.int .i64 d] 47:=hbx.later huq2;have c0:=hbq.cell;have hm0:=hbq.lt;go_wp2;go_ret2;exact ⟨rfl,bcq⟩
 ·have hb0:=Box.new w #[.int .i64 1,.int .i64 wk,.int .i64 d] 47;go_enter func198,ntmps198
  go_upto_region 3 with (go_at_call 247;(with_reducible refine (C1.out _).mono ?_);rintro e w1 ⟨rfl,hb1⟩;obtain ⟨hc1_0,hf1_0,hz1_0⟩:=bcs hb1 (w.heap.size))
  have hbx:Box w1 w.heap.size #[.int .i64 1,.int .i64 wk,.int .i64 d] 47:=hb0.later hb1
  (refine region_later (by kernel_rfl) (by kernel_rfl) ?_;(repeat (go_big_quiet_step (first|(go_at_call 248;rename_i xL;apply calls_later xL (Nat.le_refl _);exact (C2.out _))|(go_at_call 204;rename_i xL;apply calls_later xL (Nat.le_refl _);exact (C3.out _)))));refine wpQuiet_nil ?_;rintro uq2 ⟨xU,eU⟩;have huq2:=xU.h;rw [← eU] at huq2;clear eU xU)
  have hbq:Box uq2 w.heap.size #[.int .i64 1,.int .i64 wk,.int .i64 d] 47:=hbx.later huq2;have c0:=hbq.cell;have hm0:=hbq.lt;go_wp2;go_ret2;exact ⟨rfl,bcq⟩
 ·have hb0:=Box.new w #[.int .i64 2,.int .i64 wk,.int .i64 d] 47;go_enter func198,ntmps198
  go_upto_region 3 with (go_at_call 247;(with_reducible refine (C1.out _).mono ?_);rintro e w1 ⟨rfl,hb1⟩;obtain ⟨hc1_0,hf1_0,hz1_0⟩:=bcs hb1 (w.heap.size))
  have hbx:Box w1 w.heap.size #[.int .i64 2,.int .i64 wk,.int .i64 d] 47:=hb0.later hb1
  (refine region_later (by kernel_rfl) (by kernel_rfl) ?_;(repeat (go_big_quiet_step (first|(go_at_call 248;rename_i xL;apply calls_later xL (Nat.le_refl _);exact (C2.out _))|(go_at_call 204;rename_i xL;apply calls_later xL (Nat.le_refl _);exact (C3.out _)))));refine wpQuiet_nil ?_;rintro uq2 ⟨xU,eU⟩;have huq2:=xU.h;rw [← eU] at huq2;clear eU xU)
  have hbq:Box uq2 w.heap.size #[.int .i64 2,.int .i64 wk,.int .i64 d] 47:=hbx.later huq2;have c0:=hbq.cell;have hm0:=hbq.lt;go_wp2;go_ret2;exact ⟨rfl,bcq⟩
 ·have hb0:=Box.new w #[.int .i64 3,.int .i64 wk,.int .i64 d] 47;go_enter func198,ntmps198
  go_upto_region 3 with (go_at_call 247;(with_reducible refine (C1.out _).mono ?_);rintro e w1 ⟨rfl,hb1⟩;obtain ⟨hc1_0,hf1_0,hz1_0⟩:=bcs hb1 (w.heap.size))
  have hbx:Box w1 w.heap.size #[.int .i64 3,.int .i64 wk,.int .i64 d] 47:=hb0.later hb1
  (refine region_later (by kernel_rfl) (by kernel_rfl) ?_;(repeat (go_big_quiet_step (first|(go_at_call 248;rename_i xL;apply calls_later xL (Nat.le_refl _);exact (C2.out _))|(go_at_call 204;rename_i xL;apply calls_later xL (Nat.le_refl _);exact (C3.out _)))));refine wpQuiet_nil ?_;rintro uq2 ⟨xU,eU⟩;have huq2:=xU.h;rw [← eU] at huq2;clear eU xU)
  have hbq:Box uq2 w.heap.size #[.int .i64 3,.int .i64 wk,.int .i64 d] 47:=hbx.later huq2;have c0:=hbq.cell;have hm0:=hbq.lt;go_wp2;go_ret2;exact ⟨rfl,bcq⟩
end RDs
end
section
open Go.RowKit NB
namespace RDs
open Rd RWd RNu RYe
theorem on_ok {s:ByteArray} (h:(readOn s).2=0):
 (∃ p:Nat,signB s=(p:Int)∧p+1<s.size∧s.data.toList[p+1]? =some 61∧(readW (s.extract 0 p)).2=0∧(readDay (s.extract (p+2) s.size)).2=0∧
   (readOn s).1=⟨if s.data.toList[p]? =some 60 then 3 else 2,(readW (s.extract 0 p)).1,(readDay (s.extract (p+2) s.size)).1⟩)∨
 (¬ 0≤signB s∧numeral s=true∧(readDay s).2=0∧(readOn s).1=⟨0,0,(readDay s).1⟩)∨
 (¬ 0≤signB s∧numeral s=false∧4≤s.size∧same (s.extract 0 4) lastW=true∧(readW (s.extract 4 s.size)).2=0∧(readOn s).1=⟨1,(readW (s.extract 4 s.size)).1,0⟩):=by
 unfold readOn at h ⊢
 by_cases h1:0≤signB s
 ·rw [if_pos h1] at h ⊢;refine .inl ⟨(signB s).toNat,by omega,?_⟩;unfold readSign at h ⊢
  by_cases h2:s.data.toList[(signB s).toNat+1]? =some 61
  ·rw [if_pos h2] at h ⊢
   by_cases h3:(readW (s.extract 0 (signB s).toNat)).2=0
   ·rw [if_pos h3] at h ⊢
    by_cases h4:(readDay (s.extract ((signB s).toNat+2) s.size)).2=0
    ·rw [if_pos h4];have:=(List.getElem?_eq_some_iff.1 h2).1;rw [len_list] at this;exact ⟨this,h2,h3,h4,rfl⟩
    ·rw [if_neg h4] at h;exact absurd h h4
   ·rw [if_neg h3] at h;exact absurd h h3
  ·rw [if_neg h2] at h;cases h
 ·rw [if_neg h1] at h ⊢
  by_cases h2:numeral s=true
  ·rw [if_pos h2] at h ⊢
   by_cases h3:(readDay s).2=0
   ·rw [if_pos h3];exact .inr (.inl ⟨h1,h2,h3,rfl⟩)
   ·rw [if_neg h3] at h;exact absurd h h3
  ·rw [if_neg h2] at h ⊢
   by_cases h3:4≤s.size∧same (s.extract 0 4) lastW=true
   ·rw [if_pos h3] at h ⊢
    by_cases h4:(readW (s.extract 4 s.size)).2=0
    ·rw [if_pos h4];exact .inr (.inr ⟨h1,by simpa using h2,h3.1,h3.2,h4,rfl⟩)
    ·rw [if_neg h4] at h;exact absurd h h4
   ·rw [if_neg h3] at h;cases h
theorem at_byte {s:ByteArray} {k:Nat} (h:k<s.size) {c:UInt8}:s.data.toList[k]? =some c↔s[k]=c:=by
 rw [bAt h,Option.some.injEq]
set_option maxRecDepth 100000 in
set_option maxHeartbeats 6400000 in
theorem ORead (s:ByteArray) (hs:s.size≤1000000) (h:(readOn s).2=0) (w:World):Calls prog 332 #[.string s] w fun e w'=>e=.returned (.tuple #[onV (readOn s).1,.int .i64 0])∧Below w.heap.size w w':=by
 have cs:=fun W=>sign s hs W;rcases on_ok h with ⟨p,e1,h1,h2,h3,h4,h5⟩|⟨h1,h2,h3,h5⟩|⟨h1,h2,h3,h4,h6,h5⟩
 ·rw [h5];rw [e1] at cs;have x1:(s.extract 0 p).size≤1000000:=by rw [ByteArray.size_extract];omega
  have x2:(s.extract (p+2) s.size).size≤1000000:=by rw [ByteArray.size_extract];omega
  have c1:=fun W=>Weekday (s.extract 0 p) x1 W;have c2:=fun W=>day (s.extract (p+2) s.size) x2 h4 W;rw [h3] at c1;have q1:(s[p+1].toNat:Int)=61:=by rw [(at_byte h1).1 h2];rfl
  have hp:p<s.size:=by omega
  generalize (readW (s.extract 0 p)).1=wk at *;generalize (readDay (s.extract (p+2) s.size)).1=d at *;have C0:=kj cs;have C1:=kj c1;have C2:=kj c2;have q2:(p:Int)+1<(s.size:Int):=by omega
  unfold onV
  by_cases hk:s.data.toList[p]? =some 60
  ·rw [if_pos hk];have q3:((s[p].toNat:Int)==60)=true:=u8_eq 60 ((at_byte hp).1 hk);clear cs c1 c2 h h2 h3 h4 h5 hk e1 x1 x2;go_enter func332,ntmps332
   go_wp2_with (first
    |(go_at_call 341;(with_reducible refine (C0.out _).mono ?_);rintro e w' ⟨rfl,rfl⟩)
    |(go_at_call 342;(with_reducible refine (C1.out _).mono ?_);rintro e w1 ⟨rfl,hb1⟩;obtain ⟨hc1_0,hf1_0,hz1_0⟩:=bcs hb1 (w.heap.size))
    |(go_at_call 343;(with_reducible refine (C2.out _).mono ?_);rintro e w' ⟨rfl,rfl⟩))
   refine bodyPost_ret (v:=.tuple #[.agg #[.int .i64 3,.int .i64 wk,.int .i64 d],.int .i64 0]) ?_ rfl ⟨rfl,?_⟩
   ·simp only [results,results332];go_simp
   ·exact bcq
  ·rw [if_neg hk];have q3:((s[p].toNat:Int)==60)=false:=u8_ne 60 (fun e=>hk ((at_byte hp).2 e));clear cs c1 c2 h h2 h3 h4 h5 hk e1 x1 x2;go_enter func332,ntmps332
   go_wp2_with (first
    |(go_at_call 341;(with_reducible refine (C0.out _).mono ?_);rintro e w' ⟨rfl,rfl⟩)
    |(go_at_call 342;(with_reducible refine (C1.out _).mono ?_);rintro e w1 ⟨rfl,hb1⟩;obtain ⟨hc1_0,hf1_0,hz1_0⟩:=bcs hb1 (w.heap.size))
    |(go_at_call 343;(with_reducible refine (C2.out _).mono ?_);rintro e w' ⟨rfl,rfl⟩))
   refine bodyPost_ret (v:=.tuple #[.agg #[.int .i64 2,.int .i64 wk,.int .i64 d],.int .i64 0]) ?_ rfl ⟨rfl,?_⟩
   ·simp only [results,results332];go_simp
   ·exact bcq
 ·rw [h5];have c1:=fun W=>day s hs h3 W;generalize (readDay s).1=d at *;generalize signB s=p at *;have C0:=kj cs;have C1:=kj c1;unfold onV;rcases num_facts s with ⟨g,_⟩|⟨_,e1,r1,r2⟩
  ·rw [h2] at g;cases g
  ·have r3:=r2 r1;clear cs c1 h h2 h3 h5 r2;rcases r3 with r3|⟨r3,r4,r5⟩
   all_goals
    go_enter func332,ntmps332
    go_wp2_with (first
     |(go_at_call 341;(with_reducible refine (C0.out _).mono ?_);rintro e w' ⟨rfl,rfl⟩)
     |(go_at_call 343;(with_reducible refine (C1.out _).mono ?_);rintro e w' ⟨rfl,rfl⟩))
    refine bodyPost_ret (v:=.tuple #[.agg #[.int .i64 0,.int .i64 0,.int .i64 d],.int .i64 0]) ?_ rfl ⟨rfl,?_⟩
    ·simp only [results,results332];go_simp
    ·exact bcq
 ·rw [h5];have x1:(s.extract 4 s.size).size≤1000000:=by rw [ByteArray.size_extract];omega
  have x2:(s.extract 0 4).size≤1000000:=by rw [ByteArray.size_extract];omega
  have c1:=fun W=>Weekday (s.extract 4 s.size) x1 W;have c2:=fun W=>Same (s.extract 0 4) lastW (by omega) W;rw [h6] at c1;rw [h4] at c2;generalize (readW (s.extract 4 s.size)).1=wk at *;generalize signB s=p at *;unfold lastW at c2;have C0:=kj cs;have C1:=kj c1;have C2:=kj c2;unfold onV;have hsz:(4:Int)≤(s.size:Int):=by omega
  rcases num_facts s with ⟨_,e1|⟨e1,r1,r2⟩⟩|⟨g,_⟩
  ·exfalso;have:s.toList=[]:=List.isEmpty_iff.1 e1;rw [ByteArray.toList_eq] at this;have h0:s.size=0:=by rw [← len_list,this];rfl
   omega
  ·obtain ⟨r3,r4⟩:=r2 r1;clear cs c1 c2 h h2 h4 h5 h6 r2 x1 x2;rcases r4 with r4|⟨r4,r5⟩
   all_goals
    (try have r6:¬(s[0].toNat:Int)≤57:=by omega)
    go_enter func332,ntmps332
    go_wp2_with (first
     |(go_at_call 341;(with_reducible refine (C0.out _).mono ?_);rintro e w' ⟨rfl,rfl⟩)
     |(go_at_call 291;(with_reducible refine (C2.out _).mono ?_);rintro e w2 ⟨rfl,hb2⟩;obtain ⟨_,_,_⟩:=bcs hb2 (w.heap.size))
     |(go_at_call 342;(with_reducible refine (C1.out _).mono ?_);rintro e w1 ⟨rfl,hb1⟩;obtain ⟨hc1_0,hf1_0,hz1_0⟩:=bcs hb1 (w.heap.size)))
    refine bodyPost_ret (v:=.tuple #[.agg #[.int .i64 1,.int .i64 wk,.int .i64 0],.int .i64 0]) ?_ rfl ⟨rfl,?_⟩
    ·simp only [results,results332];go_simp
    ·exact bcq
  ·rw [h2] at g;cases g
end RDs
end
section
open Go.RowKit NB
namespace RRu
open Rd RWd RNu RAm RDs RAt RYe
theorem letter_back {s:ByteArray} (h:Fmt.letterOK s=true):Fmt.letS (Fmt.ltext s)=s∧Fmt.letE (Fmt.ltext s)=0:=by
 unfold Fmt.ltext
 by_cases h0:s.toList=[]
 ·rw [if_pos h0];refine ⟨?_,by decide +kernel⟩;rw [empty_of h0];decide +kernel
 ·rw [if_neg h0,if_pos h];obtain ⟨h1,h2⟩:=(Fmt.letter_ok h0).1 h;refine ⟨?_,h1⟩;unfold Fmt.letE at h1;rw [if_neg h2] at h1;unfold Fmt.letS;rw [if_neg];rintro (g|g|g|g)
  ·exact h2 g
  ·rw [if_pos g] at h1;cases h1
  ·exact h0 g
  ·by_cases g6:6<s.size
   ·rw [if_pos g6] at h1;cases h1
   ·rw [if_neg g6,if_pos (.inr g)] at h1;cases h1
theorem Day (o:Rd.OnV) (m:Int) (hf:Day.fits o.kind o.week o.day m=true) (w:World):Calls prog 310 #[.string (textOn o),.int .i64 m] w fun e w'=>e=.returned (.tuple #[onV o,.int .i64 0])∧Below w.heap.size w w':=by
 obtain ⟨hr,_,_⟩:=fits_of hf;have ho:=readOn_textOn o hr;have hsz:=(clean_on (o:=o) hr).2;have c1:=fun W=>ORead (textOn o) (by omega) (by rw [ho]) W;rw [ho] at c1;have c2:=fun W=>RDay.Fits o.kind o.week o.day m W;rw [hf] at c2;unfold onV at *;obtain ⟨k,wk,d⟩:=o;dsimp only at *;generalize textOn ⟨k,wk,d⟩=T at *;have C1:=kj c1;have C2:=kj c2;clear c1 c2 hf hr ho;go_enter func310,ntmps310
 go_wp2_with (first
  |(go_at_call 332;(with_reducible refine (C1.out _).mono ?_);rintro e w1 ⟨rfl,hb1⟩;obtain ⟨_,_,_⟩:=bcs hb1 (w.heap.size))
  |(go_at_call 236;(with_reducible refine (C2.out _).mono ?_);rintro e w2 ⟨rfl,hb2⟩;obtain ⟨_,_,_⟩:=bcs hb2 (w.heap.size);obtain ⟨_,_,_⟩:=bcs hb2 (w1.heap.size)))
 refine bodyPost_ret (v:=.tuple #[.agg #[.int .i64 k,.int .i64 wk,.int .i64 d],.int .i64 0]) ?_ rfl ⟨rfl,?_⟩
 ·simp only [results,results310];go_simp
 ·exact bcq
theorem Save (n:Int) (h0: -10800≤n) (h1:n≤10800) (w:World):Calls prog 312 #[.string (ofL (textA n))] w fun e w'=>e=.returned (.tuple #[.int .i64 n,.int .i64 0])∧Below w.heap.size w w':=by
 have hr:=readA_textA n (by omega) (by omega);have hsz:=(clean_amount (n:=n) (by omega) (by omega)).2;have c1:=fun W=>RAm.Read (ofL (textA n)) (by omega) (by rw [hr]) W;rw [hr] at c1;generalize ofL (textA n)=T at *;have C1:=kj c1;clear c1 hr;go_enter func312,ntmps312
 go_wp2_with (go_at_call 303;(with_reducible refine (C1.out _).mono ?_);rintro e w1 ⟨rfl,hb1⟩;obtain ⟨hc1,hf1⟩:=bcell hb1)
 go_ret2;exact ⟨rfl,bcq⟩
set_option maxRecDepth 100000 in
set_option maxHeartbeats 6400000 in
theorem Fields (r:RuleV) (hfit:r.Fit) (hr:Rul.right r=true) (w:World):
 Calls prog 145 #[.agg r.cells.toArray] w fun e w'=>∃ v,e=.returned (.tuple #[v,.int .i64 0])∧HoldsS w' v (fieldsR r)∧Below w.heap.size w w':=by
 obtain ⟨⟨h1,h2,h3⟩,h4,h5,h6,⟨h7,h8,h9,h10⟩,h11,h12⟩:=right_of hr;obtain ⟨g1,g2,g3⟩:=fits_of h6;have c0:=fun W=>RRule.Right r hfit W;rw [hr] at c0;have c1:=fun W=>FromText r.fr h1 (by omega) W;have c2:=fun W=>ToText r.fr r.to (by omega) h3 h2 W;have c3:=fun W=>OText ⟨r.kind,r.week,r.day⟩ g1 W;have c4:=fun W=>AtText ⟨r.sec,r.base⟩ h9 h10 h7 h8 W;have c5:=fun W=>AText r.save (by omega) (by omega) W;have c6:=fun W=>RRule.LetterText r.letter hfit.l W;rw [h4,if_pos rfl] at c6;have c7:=fun W=>MonthText r.month g2 g3 W;unfold onV at c3;unfold atV at c4;unfold fieldsR;obtain ⟨name,fr,tt,month,kind,week,day,sec,base,save,letter⟩:=r;unfold RuleV.cells at *;dsimp only at *;generalize textFrom fr=X1 at *;generalize textTo fr tt=X2 at *;generalize textM month=X3 at *;generalize textOn ⟨kind,week,day⟩=X4 at *;generalize textAt ⟨sec,base⟩=X5 at *;generalize ofL (textA save)=X6 at *;generalize Fmt.ltext letter=X7 at *;have C0:=kj c0;have C1:=kj c1;have C2:=kj c2;have C3:=kj c3;have C4:=kj c4;have C5:=kj c5;have C6:=kj c6;have C7:=kj c7;clear c0 c1 c2 c3 c4 c5 c6 c7 hr hfit h1 h2 h3 h4 h5 h6 h7 h8 h9 h10 h11 h12 g1 g2 g3;have hb0:=Box.new w #[.string name,.int .i64 fr,.int .i64 tt,.int .i64 month,.int .i64 kind,.int .i64 week,.int .i64 day,.int .i64 sec,.int .i64 base,.int .i64 save,.string letter] 57;go_enter func145,ntmps145
 go_upto_region 9 with (first
  |(go_at_call 194;(with_reducible refine (C0.out _).mono ?_);rintro e w1 ⟨rfl,hb1⟩;obtain ⟨hc1_0,hf1_0,hz1_0⟩:=bcs hb1 (w.heap.size))
  |(go_at_call 196;(with_reducible refine (C1.out _).mono ?_);rintro e w2 ⟨rfl,hb2⟩;obtain ⟨hc2_0,hf2_0,hz2_0⟩:=bcs hb2 (w.heap.size))
  |(go_at_call 197;(with_reducible refine (C2.out _).mono ?_);rintro e w3 ⟨rfl,hb3⟩;obtain ⟨hc3_0,hf3_0,hz3_0⟩:=bcs hb3 (w.heap.size))
  |(go_at_call 198;(with_reducible refine (C3.out _).mono ?_);rintro e w4 ⟨rfl,hb4⟩;obtain ⟨hc4_0,hf4_0,hz4_0⟩:=bcs hb4 (w.heap.size))
  |(go_at_call 199;(with_reducible refine (C4.out _).mono ?_);rintro e w5 ⟨rfl,hb5⟩;obtain ⟨hc5_0,hf5_0,hz5_0⟩:=bcs hb5 (w.heap.size))
  |(go_at_call 200;(with_reducible refine (C5.out _).mono ?_);rintro e w6 ⟨rfl,hb6⟩;obtain ⟨hc6_0,hf6_0,hz6_0⟩:=bcs hb6 (w.heap.size))
  |(go_at_call 201;(with_reducible refine (C6.out _).mono ?_);rintro e w7 ⟨rfl,hb7⟩;obtain ⟨hc7_0,hf7_0,hz7_0⟩:=bcs hb7 (w.heap.size)))
 have D:=((((((hb0.later hb1).later hb2).later hb3).later hb4).later hb5).later hb6).later hb7;have HF:=kj (fun (V:World) (hV:Below w7.heap.size w7 V)=>(D.later hV).cell);have HB:=kj (show Below w.heap.size w w7 from bcq);have hm0:=D.lt;clear D hb0 hb1 hb2 hb3 hb4 hb5 hb6 hb7 hc1_0 hf1_0 hz1_0 hc2_0 hf2_0 hz2_0 hc3_0 hf3_0 hz3_0 hc4_0 hf4_0 hz4_0 hc5_0 hf5_0 hz5_0 hc6_0 hf6_0 hz6_0 hc7_0 hf7_0 hz7_0
 go_region_held3 (fun w'=>∀ j,w'.cell? ⟨w.heap.size,j,none⟩=(#[.string name,.int .i64 fr,.int .i64 tt,.int .i64 month,.int .i64 kind,.int .i64 week,.int .i64 day,.int .i64 sec,.int .i64 base,.int .i64 save,.string letter]:Array Value)[j]?) ((refine HF.out _ ?_;exact bcq)) (first
  |(go_at_call 202;(with_reducible refine (C7.out _).mono ?_);rintro e w8 ⟨rfl,hb8⟩;obtain ⟨hc8,hf8⟩:=bcell hb8))
 go_wp2;go_ret2;exact ⟨_,rfl,HoldsS.of_box (l:=[name,X1,X2,⟨#[45]⟩,X3,X4,X5,X6,X7]) (Box.new _ _ _) rfl (by simp),HB.out.trans (Below.mono bcq HB.out.size)⟩
end RRu
end
section
open Go.RowKit NB
namespace RRu
open Rd RWd RNu RAm RDs RAt RYe
set_option maxRecDepth 100000 in
set_option maxHeartbeats 6400000 in
theorem Read (r:RuleV) (hfit:r.Fit) (hr:Rul.right r=true) {w:World} {v:Value} (hv:HoldsS w v (fieldsR r)):
 Calls prog 293 #[v] w fun e w'=>e=.returned (.tuple #[.agg r.cells.toArray,.int .i64 0])∧Below w.heap.size w w':=by
 obtain ⟨⟨h1,h2,h3⟩,h4,h5,h6,⟨h7,h8,h9,h10⟩,h11,h12⟩:=right_of hr;obtain ⟨g1,g2,g3⟩:=fits_of h6;have c1:=fun W=>From r.fr h1 (by omega) W;have c2:=fun W=>To r.fr r.to (by omega) h3 h2 W;have hsm:=(clean_month g2 g3).2;have c3:=fun W=>Month (textM r.month) (by omega) W;rw [readM_textM r.month g2 g3] at c3;have c4:=fun W=>Day ⟨r.kind,r.week,r.day⟩ r.month h6 W;have c5:=fun W=>AtRead ⟨r.sec,r.base⟩ h9 h10 h7 h8 W;have c6:=fun W=>Save r.save h11 h12 W;have hls:=(clean_letter h4).2;have c7:=fun W=>RRule.Letter (Fmt.ltext r.letter) (by omega) W;rw [(letter_back h4).1,(letter_back h4).2] at c7;have c8:=fun W=>RRule.Name r.name hfit.n W;rw [h5] at c8;unfold onV at c4;unfold atV at c5;obtain ⟨p,cap,hv1,hp⟩:=hv.pk1;rw [show (fieldsR r).length=9 from rfl] at hv1;subst hv1;unfold fieldsR at hp;obtain ⟨name,fr,tt,month,kind,week,day,sec,base,save,letter⟩:=r;unfold RuleV.cells at *;dsimp only at *;generalize textFrom fr=X1 at *;generalize textTo fr tt=X2 at *;generalize textM month=X3 at *;generalize textOn ⟨kind,week,day⟩=X4 at *;generalize textAt ⟨sec,base⟩=X5 at *;generalize ofL (textA save)=X6 at *;generalize Fmt.ltext letter=X7 at *;obtain ⟨b,o,rfl,hb,d0⟩:=hp 0 _ rfl;have d1:w.cell? ⟨b,o+1,none⟩=some (.string X1):=by obtain ⟨_,_,e,_,d⟩:=hp 1 _ rfl;cases e;exact d
 have d2:w.cell? ⟨b,o+2,none⟩=some (.string X2):=by obtain ⟨_,_,e,_,d⟩:=hp 2 _ rfl;cases e;exact d
 have d3:w.cell? ⟨b,o+3,none⟩=some (.string ⟨#[45]⟩):=by obtain ⟨_,_,e,_,d⟩:=hp 3 _ rfl;cases e;exact d
 have d4:w.cell? ⟨b,o+4,none⟩=some (.string X3):=by obtain ⟨_,_,e,_,d⟩:=hp 4 _ rfl;cases e;exact d
 have d5:w.cell? ⟨b,o+5,none⟩=some (.string X4):=by obtain ⟨_,_,e,_,d⟩:=hp 5 _ rfl;cases e;exact d
 have d6:w.cell? ⟨b,o+6,none⟩=some (.string X5):=by obtain ⟨_,_,e,_,d⟩:=hp 6 _ rfl;cases e;exact d
 have d7:w.cell? ⟨b,o+7,none⟩=some (.string X6):=by obtain ⟨_,_,e,_,d⟩:=hp 7 _ rfl;cases e;exact d
 have d8:w.cell? ⟨b,o+8,none⟩=some (.string X7):=by obtain ⟨_,_,e,_,d⟩:=hp 8 _ rfl;cases e;exact d
 rw [Nat.add_zero] at d0;have C1:=kj c1;have C2:=kj c2;have C3:=kj c3;have C4:=kj c4;have C5:=kj c5;have C6:=kj c6;have C7:=kj c7;have C8:=kj c8;clear c1 c2 c3 c4 c5 c6 c7 c8 hr hfit h1 h2 h3 h4 h5 h6 h7 h8 h9 h10 h11 h12 g1 g2 g3 hp hv hsm hls;have DW:Hid (∀ V,Below w.heap.size w V→V.cell? ⟨b,o,none⟩=some (.string name)∧V.cell? ⟨b,o+1,none⟩=some (.string X1)∧V.cell? ⟨b,o+2,none⟩=some (.string X2)∧V.cell? ⟨b,o+3,none⟩=some (.string ⟨#[45]⟩)∧V.cell? ⟨b,o+4,none⟩=some (.string X3)∧V.cell? ⟨b,o+5,none⟩=some (.string X4)∧V.cell? ⟨b,o+6,none⟩=some (.string X5)∧V.cell? ⟨b,o+7,none⟩=some (.string X6)∧V.cell? ⟨b,o+8,none⟩=some (.string X7)):=fun V hV=>
  ⟨(hV.cell (p:=⟨b,o,none⟩) hb).trans d0,(hV.cell (p:=⟨b,o+1,none⟩) hb).trans d1,(hV.cell (p:=⟨b,o+2,none⟩) hb).trans d2,(hV.cell (p:=⟨b,o+3,none⟩) hb).trans d3,(hV.cell (p:=⟨b,o+4,none⟩) hb).trans d4,(hV.cell (p:=⟨b,o+5,none⟩) hb).trans d5,(hV.cell (p:=⟨b,o+6,none⟩) hb).trans d6,(hV.cell (p:=⟨b,o+7,none⟩) hb).trans d7,(hV.cell (p:=⟨b,o+8,none⟩) hb).trans d8⟩
 go_enter func293,ntmps293
 go_wp2_with (first
  |(go_at_call 307;(with_reducible refine (C1.out _).mono ?_);rintro e w1 ⟨rfl,hb1⟩;obtain ⟨hc1_0,hf1_0,hz1_0⟩:=bcs hb1 (w.heap.size);obtain ⟨hc1_1,hf1_1,hz1_1⟩:=bcs hb1 (b))
  |(go_at_call 308;(with_reducible refine (C2.out _).mono ?_);rintro e w2 ⟨rfl,hb2⟩;obtain ⟨hc2_0,hf2_0,hz2_0⟩:=bcs hb2 (w.heap.size);obtain ⟨hc2_1,hf2_1,hz2_1⟩:=bcs hb2 (b))
  |(go_at_call 309;(with_reducible refine (C3.out _).mono ?_);rintro e w3 ⟨rfl,hb3⟩;obtain ⟨hc3_0,hf3_0,hz3_0⟩:=bcs hb3 (w.heap.size);obtain ⟨hc3_1,hf3_1,hz3_1⟩:=bcs hb3 (b))
  |(go_at_call 310;(with_reducible refine (C4.out _).mono ?_);rintro e w4 ⟨rfl,hb4⟩;obtain ⟨hc4_0,hf4_0,hz4_0⟩:=bcs hb4 (w.heap.size);obtain ⟨hc4_1,hf4_1,hz4_1⟩:=bcs hb4 (b))
  |(go_at_call 311;(with_reducible refine (C5.out _).mono ?_);rintro e w5 ⟨rfl,hb5⟩;obtain ⟨hc5_0,hf5_0,hz5_0⟩:=bcs hb5 (w.heap.size);obtain ⟨hc5_1,hf5_1,hz5_1⟩:=bcs hb5 (b);obtain ⟨hc5_2,hf5_2,hz5_2⟩:=bcs hb5 (w4.heap.size))
  |(go_at_call 312;(with_reducible refine (C6.out _).mono ?_);rintro e w6 ⟨rfl,hb6⟩;obtain ⟨hc6_0,hf6_0,hz6_0⟩:=bcs hb6 (w.heap.size);obtain ⟨hc6_1,hf6_1,hz6_1⟩:=bcs hb6 (b);obtain ⟨hc6_2,hf6_2,hz6_2⟩:=bcs hb6 (w4.heap.size);obtain ⟨hc6_3,hf6_3,hz6_3⟩:=bcs hb6 (w5.heap.size))
  |(go_at_call 250;(with_reducible refine (C7.out _).mono ?_);rintro e w7 ⟨rfl,hb7⟩;obtain ⟨hc7_0,hf7_0,hz7_0⟩:=bcs hb7 (w.heap.size);obtain ⟨hc7_1,hf7_1,hz7_1⟩:=bcs hb7 (b);obtain ⟨hc7_2,hf7_2,hz7_2⟩:=bcs hb7 (w4.heap.size);obtain ⟨hc7_3,hf7_3,hz7_3⟩:=bcs hb7 (w5.heap.size))
  |(go_at_call 175;(with_reducible refine (C8.out _).mono ?_);rintro e w' ⟨rfl,rfl⟩))
 obtain ⟨W8,hW8⟩:∃ V,V=w7.alloc (.cells #[.int .i64 0,.int .i64 0,.int .i64 0,.int .i64 0,.int .i64 0,.int .i64 0,.int .i64 0,.int .i64 0,.int .i64 0] 31):=⟨_,rfl⟩;have hbE:Box W8 w7.heap.size #[.int .i64 0,.int .i64 0,.int .i64 0,.int .i64 0,.int .i64 0,.int .i64 0,.int .i64 0,.int .i64 0,.int .i64 0] 31:=by rw [hW8];exact Box.new _ _ _
 have hbR:Box W8 w.heap.size #[.string ⟨#[]⟩,.int .i64 0,.int .i64 0,.int .i64 0,.int .i64 0,.int .i64 0,.int .i64 0,.int .i64 0,.int .i64 0,.int .i64 0,.string ⟨#[]⟩] 57:=by
  rw [hW8];exact ((((((((Box.new w _ _).later hb1).later hb2).later hb3).later hb4).old.later hb5).old.later hb6).later hb7).old
 have hbO:Box W8 w4.heap.size #[.int .i64 kind,.int .i64 week,.int .i64 day] 47:=by
  rw [hW8];exact (((Box.new w4 _ _).later hb5).old.later hb6).later hb7 |>.old
 have hbA:Box W8 w5.heap.size #[.int .i64 sec,.int .i64 base] 49:=by
  rw [hW8];exact ((Box.new w5 _ _).later hb6).later hb7 |>.old
 have hbw:Below w.heap.size w W8:=by rw [hW8];exact bcq
 have dn:=(DW.out W8 hbw).1;rw [← hW8];have ha1:w.heap.size<w4.heap.size:=hz4_0;have ha2:w4.heap.size<w5.heap.size:=hz5_2;have ha3:w5.heap.size<w7.heap.size:=hz7_3;clear hb1 hb2 hb3 hb4 hb5 hb6 hb7 hc1_0 hf1_0 hz1_0 hc2_0 hf2_0 hz2_0 hc3_0 hf3_0 hz3_0 hc4_0 hf4_0 hz4_0 hc5_0 hf5_0 hz5_0 hc6_0 hf6_0 hz6_0 hc7_0 hf7_0 hz7_0 hW8;clear hc1_1 hf1_1 hz1_1 hc2_1 hf2_1 hz2_1 hc3_1 hf3_1 hz3_1 hc4_1 hf4_1 hz4_1 hc5_1 hf5_1 hz5_1 hc5_2 hf5_2 hz5_2 hc6_1 hf6_1 hz6_1 hc6_2 hf6_2 hz6_2 hc6_3 hf6_3 hz6_3 hc7_1 hf7_1 hz7_1 hc7_2 hf7_2 hz7_2 hc7_3 hf7_3 hz7_3;clear d0 d1 d2 d3 d4 d5 d6 d7 d8;generalize w4.heap.size=qO at *;generalize w5.heap.size=qA at *;generalize w7.heap.size=qE at *
 go_loop [98] (fun i=>∃ k:Nat,k≤9∧i=.int .i64 k) (fun i=>9-(intOf i).toNat)
 case atStart=>exact ⟨0,Nat.zero_le _,rfl⟩
 case round=>
  obtain ⟨k,hk,rfl⟩:=hrel
  by_cases hlt:k<9
  ·have hk0:W8.cell? ⟨qE,k,none⟩=some (.int .i64 0):=by
    rw [hbE.cell];rcases (by omega:k=0∨k=1∨k=2∨k=3∨k=4∨k=5∨k=6∨k=7∨k=8) with rfl|rfl|rfl|rfl|rfl|rfl|rfl|rfl|rfl
    all_goals rfl
   have q1:(k:Int)<9:=by omega
   go_wp2;go_round
   case rel=>exact ⟨k+1,by omega,by go_num⟩
   case measure=>simp [intOf];omega
  ·obtain rfl:k=9:=by omega
   have cR:=hbR.cell;have cO:=hbO.cell;have cA:=hbA.cell;have n1:qO≠w.heap.size:=by omega
   have n2:qA≠w.heap.size:=by omega
   have n3:b≠w.heap.size:=by omega
   have fR:=hbR.free;have fO:=hbO.free;have fA:=hbA.free;have lR:=hbR.lt
   go_upto_region 21 with fail
   go_region
   go_wp2;refine bodyPost_ret (v:=.tuple #[.agg #[.string name,.int .i64 fr,.int .i64 tt,.int .i64 month,.int .i64 kind,.int .i64 week,.int .i64 day,.int .i64 sec,.int .i64 base,.int .i64 save,.string letter],.int .i64 0]) ?_ rfl ⟨rfl,?_⟩
   ·simp only [results,results293];go_simp
   ·exact bcq
end RRu
end
end Go.Proofs.YtgmfojgnjdpofaaGreatDoor
