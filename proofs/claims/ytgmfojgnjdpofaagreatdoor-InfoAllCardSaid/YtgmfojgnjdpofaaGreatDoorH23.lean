import Derived.Test.YtgmfojgnjdpofaaGreatDoorH22
import Derived.Test.YtgmfojgnjdpofaaGreatDoorH21
import Derived.Test.YtgmfojgnjdpofaaGreatDoorH20
import Derived.Test.YtgmfojgnjdpofaaGreatDoorH9
namespace Go.Proofs.YtgmfojgnjdpofaaGreatDoor
open Go.Proofs.Tryz
section
open Go.RowKit NB
namespace RYe
open Rd RWd RNu
theorem Year (n:Int) (h0: -32767≤n) (h1:n≤32767) (w:World):Calls prog 246 #[.int .i64 n] w fun e w'=>e=.returned (.bool true)∧w=w':=by
 go_enter func246,ntmps246;go_wp2;go_ret;exact ⟨rfl,rfl⟩
theorem FromText (y:Int) (h0: -32767≤y) (h1:y≤32767) (w:World):Calls prog 196 #[.int .i64 y] w fun e w'=>e=.returned (.tuple #[.string (textFrom y),.int .i64 0])∧Below w.heap.size w w':=by
 unfold textFrom
 by_cases h:y= -32767
 ·rw [if_pos h];subst h;go_enter func196,ntmps196;go_wp2;go_ret2;exact ⟨rfl,bcq⟩
 ·rw [if_neg h];have c1:=fun W=>Text y (by omega) (by omega) W;generalize ofL (textN y)=B at *;have C1:=kj c1;have e1:(y== -32767)=false:=by simpa using h
  clear c1;go_enter func196,ntmps196
  go_wp2_with (first
   |(go_at_call 246;(with_reducible refine (Year y h0 h1 _).mono ?_);rintro e w' ⟨rfl,rfl⟩)
   |(go_at_call 204;(with_reducible refine (C1.out _).mono ?_);rintro e w1 ⟨rfl,hb1⟩;obtain ⟨hc1,hf1⟩:=bcell hb1))
  go_ret2;exact ⟨rfl,bcq⟩
theorem ToText (fr y:Int) (h0: -32767≤y) (h1:y≤32767) (hf:fr≤y) (w:World):Calls prog 197 #[.int .i64 fr,.int .i64 y] w fun e w'=>e=.returned (.tuple #[.string (textTo fr y),.int .i64 0])∧Below w.heap.size w w':=by
 unfold textTo;have q1:¬y<fr:=by omega
 by_cases h:y=fr
 ·rw [if_pos h];subst h;have e1:(y==y)=true:=by simp
  go_enter func197,ntmps197;go_wp2;go_ret2;exact ⟨rfl,bcq⟩
 ·rw [if_neg h];have e1:(y==fr)=false:=by simpa using h
  by_cases h2:y=32767
  ·rw [if_pos h2];subst h2;go_enter func197,ntmps197;go_wp2;go_ret2;exact ⟨rfl,bcq⟩
  ·rw [if_neg h2];have c1:=fun W=>Text y (by omega) (by omega) W;generalize ofL (textN y)=B at *;have C1:=kj c1;have e2:(y==32767)=false:=by simpa using h2
   clear c1;go_enter func197,ntmps197
   go_wp2_with (first
   |(go_at_call 246;(with_reducible refine (Year y h0 h1 _).mono ?_);rintro e w' ⟨rfl,rfl⟩)
   |(go_at_call 204;(with_reducible refine (C1.out _).mono ?_);rintro e w1 ⟨rfl,hb1⟩;obtain ⟨hc1,hf1⟩:=bcell hb1))
   go_ret2;exact ⟨rfl,bcq⟩
theorem num_facts (s:ByteArray):(numeral s=false∧(s.toList.isEmpty=true∨(s.toList.isEmpty=false∧0<s.size∧∀ h:0<s.size,((s[0].toNat:Int)==45)=false∧((s[0].toNat:Int)<48∨(¬ (s[0].toNat:Int)<48∧(57:Int)<(s[0].toNat:Int))))))∨
 (numeral s=true∧s.toList.isEmpty=false∧0<s.size∧∀ h:0<s.size,((s[0].toNat:Int)==45)=true∨(((s[0].toNat:Int)==45)=false∧¬(s[0].toNat:Int)<48∧¬(57:Int)<(s[0].toNat:Int))):=by
 unfold numeral;rw [ByteArray.toList_eq];cases hl:s.data.toList with
 |nil=>exact .inl ⟨rfl,.inl rfl⟩
 |cons c r=>
  have hsz:0<s.size:=by
   have:=congrArg List.length hl;rw [len_list,List.length_cons] at this;omega
  have h0:s[0]=c:=by
   have:=bAt hsz;rw [hl] at this;exact (Option.some.inj this).symm
  have hc:((c.toNat:Int)==45)=decide (c=45):=by
   rw [Bool.eq_iff_iff,beq_iff_eq,decide_eq_true_eq]
   constructor
   ·intro e;apply UInt8.toNat_inj.1;show c.toNat=45;omega
   ·intro e;rw [e];rfl
  by_cases h45:c=45
  ·refine .inr ⟨by rw [h45];rfl,rfl,hsz,fun _=>.inl ?_⟩;rw [h0,hc];exact decide_eq_true h45
  ·have e45:decide (c=45)=false:=decide_eq_false h45;cases hd:isD c with
   |true=>
    obtain ⟨q1,q2⟩:=isD_true hd;refine .inr ⟨by show (decide (c=45)||isD c)=true;rw [hd,Bool.or_true],rfl,hsz,fun _=>.inr ?_⟩;rw [h0,hc];exact ⟨e45,q1,q2⟩
   |false=>
    refine .inl ⟨by show (decide (c=45)||isD c)=false;rw [hd,e45];rfl,.inr ⟨rfl,hsz,fun _=> ?_⟩⟩;rw [h0,hc];exact ⟨e45,isD_false hd⟩
theorem Numeral (s:ByteArray) (_hs:s.size≤1000000) (w:World):Calls prog 329 #[.string s] w fun e w'=>e=.returned (.bool (numeral s))∧w=w':=by
 rcases num_facts s with ⟨hn,e1|⟨e1,q1,q2⟩⟩|⟨hn,e1,q1,q2⟩
 ·rw [hn];clear hn;go_enter func329,ntmps329;go_wp2;go_ret;exact ⟨rfl,rfl⟩
 ·rw [hn];obtain ⟨r1,r2⟩:=q2 q1;clear hn q2;rcases r2 with r2|⟨r2,r3⟩
  all_goals
   (try have r4:¬(s[0].toNat:Int)≤57:=by omega)
   go_enter func329,ntmps329;go_wp2;go_ret;exact ⟨rfl,rfl⟩
 ·rw [hn];have r1:=q2 q1;clear hn q2;rcases r1 with r1|⟨r1,r2,r3⟩
  all_goals
   go_enter func329,ntmps329;go_wp2;go_ret;exact ⟨rfl,rfl⟩
theorem number (s:ByteArray) (hs:s.size≤1000000) (h:(readY s).2=0) (w:World):Calls prog 330 #[.string s] w fun e w'=>e=.returned (.tuple #[.int .i64 (readY s).1,.int .i64 0])∧w=w':=by
 have cr:=fun W=>RNu.Read s (by omega) W;have hy:(readN s).2=0∧ -32767≤(readN s).1∧(readN s).1≤32767∧(readY s).1=(readN s).1:=by
  unfold readY at h ⊢
  by_cases h1:(readN s).2=0
  ·rw [if_pos h1] at h ⊢
   by_cases h2: -32767≤(readN s).1∧(readN s).1≤32767
   ·rw [if_pos h2];exact ⟨h1,h2.1,h2.2,rfl⟩
   ·rw [if_neg h2] at h;cases h
  ·rw [if_neg h1] at h;exact absurd h h1
 obtain ⟨h1,h2,h3,h4⟩:=hy;rw [h4];rw [h1] at cr;generalize (readN s).1=n at *;have CR:=kj cr;clear cr h h1 h4;go_enter func330,ntmps330
 go_wp2_with (first
  |(go_at_call 246;(with_reducible refine (Year n h2 h3 _).mono ?_);rintro e w' ⟨rfl,rfl⟩)
  |(go_at_call 328;(with_reducible refine (CR.out _).mono ?_);rintro e w' ⟨rfl,rfl⟩))
 go_ret2;exact ⟨rfl,rfl⟩
theorem From (y:Int) (h0: -32767≤y) (h1:y≤32767) (w:World):Calls prog 307 #[.string (textFrom y)] w fun e w'=>e=.returned (.tuple #[.int .i64 y,.int .i64 0])∧Below w.heap.size w w':=by
 unfold textFrom
 by_cases h:y= -32767
 ·rw [if_pos h,h];have c1:=fun W=>Numeral ⟨#[109,105,110]⟩ (by decide) W;have c2:=fun W=>word ⟨#[109,105,110]⟩ (by decide) W;rw [show numeral ⟨#[109,105,110]⟩=false by decide +kernel] at c1;rw [show wordY ⟨#[109,105,110]⟩=(0,0) by decide +kernel] at c2;have C1:=kj c1;have C2:=kj c2;clear c1 c2;go_enter func307,ntmps307
  go_wp2_with (first
   |(go_at_call 329;(with_reducible refine (C1.out _).mono ?_);rintro e w' ⟨rfl,rfl⟩)
   |(go_at_call 331;(with_reducible refine (C2.out _).mono ?_);rintro e w2 ⟨rfl,hb2⟩;obtain ⟨hc2,hf2⟩:=bcell hb2))
  go_ret2;exact ⟨rfl,bcq⟩
 ·rw [if_neg h];have hsz:(ofL (textN y)).size≤1000000:=by
   rw [ofL_size];have:=textN_len (n:=y) (by omega) (by omega);omega
  have c1:=fun W=>Numeral (ofL (textN y)) hsz W;rw [numeral_textN] at c1;have c2:=fun W=>number (ofL (textN y)) hsz (by rw [readY_textN y h0 h1]) W;rw [readY_textN y h0 h1] at c2;generalize ofL (textN y)=B at *;have C1:=kj c1;have C2:=kj c2;clear c1 c2;go_enter func307,ntmps307
  go_wp2_with (first
   |(go_at_call 329;(with_reducible refine (C1.out _).mono ?_);rintro e w' ⟨rfl,rfl⟩)
   |(go_at_call 330;(with_reducible refine (C2.out _).mono ?_);rintro e w' ⟨rfl,rfl⟩))
  go_ret2;exact ⟨rfl,bcq⟩
theorem To (fr y:Int) (h0: -32767≤y) (h1:y≤32767) (hf:fr≤y) (w:World):Calls prog 308 #[.string (textTo fr y),.int .i64 fr] w fun e w'=>e=.returned (.tuple #[.int .i64 y,.int .i64 0])∧Below w.heap.size w w':=by
 unfold textTo;have q1:¬y<fr:=by omega
 by_cases h:y=fr
 ·rw [if_pos h];subst h;have c1:=fun W=>Numeral ⟨#[111,110,108,121]⟩ (by decide) W;have c2:=fun W=>word ⟨#[111,110,108,121]⟩ (by decide) W;rw [show numeral ⟨#[111,110,108,121]⟩=false by decide +kernel] at c1;rw [show wordY ⟨#[111,110,108,121]⟩=(2,0) by decide +kernel] at c2;have C1:=kj c1;have C2:=kj c2;clear c1 c2;go_enter func308,ntmps308
  go_wp2_with (first
   |(go_at_call 329;(with_reducible refine (C1.out _).mono ?_);rintro e w' ⟨rfl,rfl⟩)
   |(go_at_call 331;(with_reducible refine (C2.out _).mono ?_);rintro e w2 ⟨rfl,hb2⟩;obtain ⟨hc2,hf2⟩:=bcell hb2))
  go_ret2;exact ⟨rfl,bcq⟩
 ·rw [if_neg h]
  by_cases h2:y=32767
  ·rw [if_pos h2];subst h2;have c1:=fun W=>Numeral ⟨#[109,97,120]⟩ (by decide) W;have c2:=fun W=>word ⟨#[109,97,120]⟩ (by decide) W;rw [show numeral ⟨#[109,97,120]⟩=false by decide +kernel] at c1;rw [show wordY ⟨#[109,97,120]⟩=(1,0) by decide +kernel] at c2;have C1:=kj c1;have C2:=kj c2;clear c1 c2;go_enter func308,ntmps308
   go_wp2_with (first
    |(go_at_call 329;(with_reducible refine (C1.out _).mono ?_);rintro e w' ⟨rfl,rfl⟩)
    |(go_at_call 331;(with_reducible refine (C2.out _).mono ?_);rintro e w2 ⟨rfl,hb2⟩;obtain ⟨hc2,hf2⟩:=bcell hb2))
   go_ret2;exact ⟨rfl,bcq⟩
  ·rw [if_neg h2];have hsz:(ofL (textN y)).size≤1000000:=by
    rw [ofL_size];have:=textN_len (n:=y) (by omega) (by omega);omega
   have c1:=fun W=>Numeral (ofL (textN y)) hsz W;rw [numeral_textN] at c1;have c2:=fun W=>number (ofL (textN y)) hsz (by rw [readY_textN y h0 h1]) W;rw [readY_textN y h0 h1] at c2;generalize ofL (textN y)=B at *;have C1:=kj c1;have C2:=kj c2;clear c1 c2;go_enter func308,ntmps308
   go_wp2_with (first
    |(go_at_call 329;(with_reducible refine (C1.out _).mono ?_);rintro e w' ⟨rfl,rfl⟩)
    |(go_at_call 330;(with_reducible refine (C2.out _).mono ?_);rintro e w' ⟨rfl,rfl⟩))
   go_ret2;exact ⟨rfl,bcq⟩
end RYe
end
section
open Go.RowKit NB
namespace RDs
open Rd RWd RNu RYe
def onV (o:Rd.OnV):Value:=.agg #[.int .i64 o.kind,.int .i64 o.week,.int .i64 o.day]
theorem day (s:ByteArray) (hs:s.size≤1000000) (h:(readDay s).2=0) (w:World):Calls prog 343 #[.string s] w fun e w'=>e=.returned (.tuple #[.int .i64 (readDay s).1,.int .i64 0])∧w=w':=by
 have cr:=fun W=>RNu.Read s (by omega) W;have hy:(readN s).2=0∧1≤(readN s).1∧(readN s).1≤31∧(readDay s).1=(readN s).1:=by
  unfold readDay at h ⊢
  by_cases h1:(readN s).2=0
  ·rw [if_pos h1] at h ⊢
   by_cases h2:1≤(readN s).1∧(readN s).1≤31
   ·rw [if_pos h2];exact ⟨h1,h2.1,h2.2,rfl⟩
   ·rw [if_neg h2] at h;cases h
  ·rw [if_neg h1] at h;exact absurd h h1
 obtain ⟨h1,h2,h3,h4⟩:=hy;rw [h4];rw [h1] at cr;generalize (readN s).1=n at *;have CR:=kj cr;clear cr h h1 h4;go_enter func343,ntmps343
 go_wp2_with (go_at_call 328;(with_reducible refine (CR.out _).mono ?_);rintro e w' ⟨rfl,rfl⟩)
 go_ret2;exact ⟨rfl,rfl⟩
theorem sign_step {s:ByteArray} {k:Nat} (h:k<s.size):signF k (s.data.toList.drop k)=if s[k]=60∨s[k]=62 then (k:Int) else signF (k+1) (s.data.toList.drop (k+1)):=by
 have e:s.data.toList.drop k=s[k] :: s.data.toList.drop (k+1):=by
  rw [List.drop_eq_getElem_cons (by simpa using h)];rfl
 rw [e];rfl
theorem u8_eq {c:UInt8} (n:UInt8) (h:c=n):((c.toNat:Int)==(n.toNat:Int))=true:=by rw [h];simp
theorem u8_ne {c:UInt8} (n:UInt8) (h:c≠n):((c.toNat:Int)==(n.toNat:Int))=false:=by
 rw [beq_eq_false_iff_ne];exact fun e=>h (UInt8.toNat_inj.1 (by omega))
set_option maxRecDepth 100000 in
theorem sign (s:ByteArray) (hs:s.size≤1000000) (w:World):Calls prog 341 #[.string s] w fun e w'=>e=.returned (.int .i64 (signB s))∧w=w':=by
 obtain ⟨R,hR⟩:∃ r,r=signB s:=⟨_,rfl⟩;rw [← hR];have HR:=kj hR;clear hR;go_enter func341,ntmps341;go_wp2
 go_loop [3] (fun i=>∃ k:Nat,k≤s.size∧i=.int .i64 k∧Hid (signF k (s.data.toList.drop k)=R)) (fun i=>s.size-(intOf i).toNat)
 case atStart=>exact ⟨0,Nat.zero_le _,rfl,by first|exact HR.out.symm|exact ⟨HR.out.symm,rfl⟩⟩
 case round=>
  obtain ⟨k,hk,rfl,HS⟩:=hrel
  by_cases hlt:k<s.size
  ·have hst:=HS.out;rw [sign_step hlt] at hst
   by_cases h1:s[k]=60
   ·rw [if_pos (.inl h1)] at hst;have q1:((s[k].toNat:Int)==60)=true:=u8_eq 60 h1;subst hst;clear h1;go_wp2;go_ret;exact ⟨rfl,rfl⟩
   ·have q1:((s[k].toNat:Int)==60)=false:=u8_ne 60 h1
    by_cases h2:s[k]=62
    ·rw [if_pos (.inr h2)] at hst;have q2:((s[k].toNat:Int)==62)=true:=u8_eq 62 h2;subst hst;clear h1 h2;go_wp2;go_ret;exact ⟨rfl,rfl⟩
    ·have q2:((s[k].toNat:Int)==62)=false:=u8_ne 62 h2;rw [if_neg (by rintro (h|h);exact h1 h;exact h2 h)] at hst;have HT:=kj hst;clear hst h1 h2;go_wp2;go_round
     case rel=>exact ⟨k+1,by omega,by go_num,HT.out⟩
     case measure=>simp [intOf];omega
  ·obtain rfl:k=s.size:=by omega
   have hst:=HS.out;rw [List.drop_eq_nil_of_le (by simp)] at hst;have hst:(-1:Int)=R:=hst;subst hst;go_wp2;go_ret;exact ⟨rfl,rfl⟩
theorem on_right (o:Rd.OnV):rightOn o=Day.onRight o.kind o.week o.day:=by
 rw [Bool.eq_iff_iff,Day.onRight_iff];unfold rightOn
 by_cases h0:o.kind=0
 ·rw [if_pos h0,decide_eq_true_eq];omega
 ·rw [if_neg h0]
  by_cases h1:o.kind=1
  ·rw [if_pos h1,decide_eq_true_eq];omega
  ·rw [if_neg h1]
   by_cases h2:o.kind=2∨o.kind=3
   ·rw [if_pos h2,decide_eq_true_eq];omega
   ·rw [if_neg h2];constructor
    ·intro h;cases h
    ·intro h;omega
end RDs
end
section
open Go.RowKit NB
namespace RAm
open Rd RWd RNu
theorem sum_true:∀ (l:List ByteArray) (i:Nat) (sum:Int) (fits:Bool) (S:Int),sumA i l sum fits=some (S,true)→fits=true:=by
 intro l
 induction l with
 |nil=>
  intro i sum fits S h;have:=Option.some.inj h;exact (Prod.mk.inj this).2
 |cons x r ih=>
  intro i sum fits S h;rw [sumA] at h;generalize partV x (if i=0 then 1 else 2) (if i=0 then 3 else 2)=q at h
  by_cases hq:q.2=false
  ·rw [if_pos hq] at h;cases h
  ·rw [if_neg hq] at h;have:=ih _ _ _ _ h;rw [Bool.and_eq_true] at this;exact this.1
theorem part_val {x:ByteArray} {a b:Nat} (hb:b≤3) (_h:(partV x a b).2=true):0≤(partV x a b).1∧(partV x a b).1≤999:=by
 unfold partV
 split
 ·exact ⟨Int.le_refl _,by decide⟩
 ·rename_i hn;have hd:digs x.data.toList=true:=by
   cases hd:digs x.data.toList with
   |true=>rfl
   |false=>exact absurd (.inr (.inr hd)) hn
  unfold digs at hd;have h3:=val_lt (Bool.and_eq_true_iff.1 hd).2;have h4:x.size≤3:=by
   have:¬b<x.size:=fun h=>hn (.inr (.inl h));omega
  have h5:(10:Nat) ^ x.data.toList.length≤10 ^ 3:=Nat.pow_le_pow_right (by omega) (by rw [len_list];exact h4);have h6:(10:Nat) ^ 3=1000:=by decide
  dsimp only;omega
theorem sum_step {i:Nat} {x:ByteArray} {r:List ByteArray} {sum S:Int} (h:sumA i (x :: r) sum true=some (S,true)):
 ∃ N:Int,partV x (if i=0 then 1 else 2) (if i=0 then 3 else 2)=(N,true)∧0≤N∧N≤999∧(i=0∨N≤59)∧sumA (i+1) r (sum+N*unit i) true=some (S,true):=by
 rw [sumA] at h;have hpv:=part_val (x:=x) (a:=if i=0 then 1 else 2) (b:=if i=0 then 3 else 2) (by split<;>omega);generalize partV x (if i=0 then 1 else 2) (if i=0 then 3 else 2)=q at *
 by_cases hq:q.2=false
 ·rw [if_pos hq] at h;cases h
 ·rw [if_neg hq] at h;have hp:q.2=true:=by simpa using hq
  have hf:=sum_true _ _ _ _ _ h;rw [hf] at h;obtain ⟨h1,h2⟩:=hpv hp;rw [Bool.true_and,Bool.or_eq_true,decide_eq_true_eq,decide_eq_true_eq] at hf;exact ⟨_,Prod.ext rfl hp,h1,h2,hf,h⟩
theorem readA_ok {s:ByteArray} (h:(readA s).2=0):(s=ofL [45]∧readA s=(0,0))∨(s≠ofL [45]∧∃ S,(cutB (bodyB s)).length≤3∧sumA 0 (cutB (bodyB s)) 0 true=some (S,true)∧S<604800∧readA s=(if negB s=true then -S else S,0)):=by
 unfold readA at h ⊢
 by_cases h0:s=ofL [45]
 ·rw [if_pos h0];exact .inl ⟨h0,rfl⟩
 ·rw [if_neg h0] at h ⊢
  by_cases h1:3<(cutB (bodyB s)).length
  ·rw [if_pos h1] at h;cases h
  ·rw [if_neg h1] at h ⊢;cases hs:sumA 0 (cutB (bodyB s)) 0 true with
   |none=>rw [hs] at h;cases h
   |some p=>
    obtain ⟨S,F⟩:=p;rw [hs] at h;dsimp only at h ⊢
    by_cases h2:F=false∨604800≤S
    ·rw [if_pos h2] at h;cases h
    ·rw [if_neg h2];have hF:F=true:=by
      cases F with
      |true=>rfl
      |false=>exact absurd (.inl rfl) h2
     subst hF;refine .inr ⟨h0,S,by omega,rfl,by omega,?_⟩
     split<;>rfl
theorem body_facts (s:ByteArray):∃ d g,bodyB s=d∧negB s=g∧d.size≤s.size∧((g=true∧(0:Int)<(s.size:Int)∧(∀ h:0<s.size,((s[0].toNat:Int)==45)=true)∧s.extract 1 s.size=d∧(d.size:Int)<(s.size:Int))∨(g=false∧d=s∧(¬ (0:Int)<(s.size:Int)∨((0:Int)<(s.size:Int)∧(∀ h:0<s.size,((s[0].toNat:Int)==45)=false))))):=by
 cases hn:negB s with
 |true=>
  have h0:0<s.size:=by
   rcases Nat.eq_zero_or_pos s.size with h|h
   ·unfold negB at hn;have:s.data.toList=[]:=List.length_eq_zero_iff.1 (by rw [len_list];exact h);rw [this] at hn;simp at hn
   ·exact h
  refine ⟨_,_,rfl,rfl,?_,.inl ⟨rfl,by omega,fun h=>(neg_at h).1 hn,?_,?_⟩⟩
  ·unfold bodyB;rw [if_pos hn,ByteArray.size_extract];omega
  ·unfold bodyB;rw [if_pos hn]
  ·unfold bodyB;rw [if_pos hn,ByteArray.size_extract];omega
 |false=>
  have hb:bodyB s=s:=by unfold bodyB;rw [hn,if_neg (by decide)]
  refine ⟨_,_,rfl,rfl,by rw [hb];exact Nat.le_refl _,.inr ⟨rfl,hb,?_⟩⟩
  by_cases h0:0<s.size
  ·refine .inr ⟨by omega,fun h=> ?_⟩;have:=mt (neg_at h).2 (by rw [hn];decide)
   simpa using this
  ·exact .inl (by omega)
theorem cut_sizes {d x:ByteArray} (h:x∈cutB d):x.size≤d.size:=by
 have key:∀ (l cur:Bs) (a:Bs),a∈cutF cur l→a.length≤cur.length+l.length:=by
  intro l
  induction l with
  |nil=>intro cur a ha;rw [cutF,List.mem_singleton] at ha;rw [ha];simp
  |cons c r ih=>
   intro cur a ha;rw [cutF] at ha
   split at ha
   ·rcases List.mem_cons.1 ha with rfl|ha
    ·omega
    ·have:=ih _ _ ha;simp at this ⊢;omega
   ·have:=ih _ _ ha;simp at this ⊢;omega
 obtain ⟨a,ha,rfl⟩:=List.mem_map.1 h;have:=key _ _ _ ha;rw [ofL_size]
 simpa using this
set_option maxRecDepth 100000 in
set_option maxHeartbeats 3200000 in
theorem Read (s:ByteArray) (hs:s.size≤1000000) (hok:(readA s).2=0) (w:World):
 Calls prog 303 #[.string s] w fun e w'=>e=.returned (.tuple #[.int .i64 (readA s).1,.int .i64 0])∧Below w.heap.size w w':=by
 rcases readA_ok hok with ⟨h1,h2⟩|⟨h1,S,hlen,hsum,hS,hval⟩
 ·rw [h2];have e1:(s.toList==[45])=true:=by rw [h1,ByteArray.toList_eq];rfl
  clear h1 h2 hok;go_enter func303,ntmps303;go_wp2;go_ret2;exact ⟨rfl,Below.refl _ _⟩
 ·have e1:(s.toList==[45])=false:=by
   rw [beq_eq_false_iff_ne,ByteArray.toList_eq];intro h;exact h1 (by rw [← ofL_self s,h])
  rw [hval];obtain ⟨d,g,hb,hg,hsz,hcase⟩:=body_facts s;rw [hb] at hlen hsum;rw [hg];have cc:=fun W=>cut d (by omega) W;have hps:=fun x (hx:x∈cutB d)=>Nat.le_trans (cut_sizes hx) (Nat.le_trans hsz hs);obtain ⟨P,hP⟩:∃ P,P=cutB d:=⟨_,rfl⟩;rw [← hP] at cc hlen hsum hps;have CC:=kj cc;have HP:=kj hsum;have HS:=kj hps;obtain ⟨T,hT⟩:∃ T,T=if g=true then -S else S:=⟨_,rfl⟩
  rw [← hT];have HT:=kj hT;clear hok h1 hval hb hg cc hP hsum hps hT;rcases hcase with ⟨rfl,q1,q2,q3,q4⟩|⟨rfl,rfl,q1|⟨q1,q2⟩⟩
  all_goals
   (try have q0:0<s.size:=by omega)
   (try replace q2:=q2 q0)
   go_enter func303,ntmps303
   go_wp2_with (go_at_call 325;refine (CC.out _).mono ?_;rintro e w1 ⟨v1,rfl,hown1,hb1⟩;obtain ⟨p1,c1,hv1,hp1⟩:=(HoldsS.of_own hown1).pk1;subst hv1;have HPK:=kj hp1;clear hp1 hown1)
   have HB1:=kj hb1;have hsw1:=hb1.size;clear hb1;have hpl:(0:Int)≤(P.length:Int):=by omega
   go_loopw [35,6,7] (fun i t f wr=>∃ (k:Nat) (sum:Int),i=.int .i64 k∧t=.int .i64 sum∧f=.bool true∧k≤P.length∧Below w1.heap.size w1 wr∧0≤sum∧sum≤k*4000000∧Hid (sumA k (P.drop k) sum true=some (S,true))) (fun i _ _ _=>P.length-(intOf i).toNat)
   case atStart=>exact ⟨0,0,rfl,rfl,rfl,Nat.zero_le _,Below.refl _ _,by omega,by omega,HP.out⟩
   case round=>
    obtain ⟨k,sum,rfl,rfl,rfl,hk,hbr,hs0,hs1,HQ⟩:=hrel
    by_cases hlt:k<P.length
    ·obtain ⟨x,hx⟩:∃ x,P[k]? =some x:=⟨_,List.getElem?_eq_getElem hlt⟩;obtain ⟨g1,o1,rfl,hg1,d1⟩:=HPK.out k x hx;replace d1:=(hbr.cell (p:=⟨g1,o1+k,none⟩) hg1).trans d1;have hxs:=HS.out x (List.mem_of_getElem? hx);have hdk:P.drop k=x :: P.drop (k+1):=by
      rw [List.drop_eq_getElem_cons hlt]
      congr 1
      rw [List.getElem?_eq_getElem hlt] at hx;exact Option.some.inj hx
     have hst:=HQ.out;rw [hdk] at hst;obtain ⟨N,hN,n0,n1,n2,hN2⟩:=sum_step hst;have hr1:(k:Int)<(P.length:Int):=by omega
     have HX:=kj hN2;clear hst hdk hx hN2;rcases (by omega:k=0∨k=1∨k=2) with rfl|rfl|rfl
     ·have cp:∀ W,Calls prog 326 #[.string x,.int .i64 1,.int .i64 3] W fun e w'=>e=.returned (.tuple #[.int .i64 N,.bool true])∧W=w':=fun W=>by
       have:=part x (by omega) 1 3 (by omega) (by omega) W;rw [show partV x 1 3=(N,true) from hN] at this;exact this
      have CP:=kj cp;clear cp hN n2;rw [Nat.add_zero] at d1
      go_wp2_with (go_at_call 326;(with_reducible refine (CP.out _).mono ?_);rintro e w' ⟨rfl,rfl⟩)
      go_roundw
      case rel=>exact ⟨1,sum+N*3600,by go_num,by go_num,rfl,by omega,bcq,by omega,by omega,HX.out⟩
      case measure=>simp [intOf];omega
     ·have cp:∀ W,Calls prog 326 #[.string x,.int .i64 2,.int .i64 2] W fun e w'=>e=.returned (.tuple #[.int .i64 N,.bool true])∧W=w':=fun W=>by
       have:=part x (by omega) 2 2 (by omega) (by omega) W;rw [show partV x 2 2=(N,true) from hN] at this;exact this
      have CP:=kj cp;have n3:N≤59:=by omega
      clear cp hN n2
      go_wp2_with (go_at_call 326;(with_reducible refine (CP.out _).mono ?_);rintro e w' ⟨rfl,rfl⟩)
      go_roundw
      case rel=>exact ⟨2,sum+N*60,by go_num,by go_num,rfl,by omega,bcq,by omega,by omega,HX.out⟩
      case measure=>simp [intOf];omega
     ·have cp:∀ W,Calls prog 326 #[.string x,.int .i64 2,.int .i64 2] W fun e w'=>e=.returned (.tuple #[.int .i64 N,.bool true])∧W=w':=fun W=>by
       have:=part x (by omega) 2 2 (by omega) (by omega) W;rw [show partV x 2 2=(N,true) from hN] at this;exact this
      have CP:=kj cp;have n3:N≤59:=by omega
      clear cp hN n2
      go_wp2_with (go_at_call 326;(with_reducible refine (CP.out _).mono ?_);rintro e w' ⟨rfl,rfl⟩)
      go_roundw
      case rel=>exact ⟨3,sum+N,by go_num,by go_num,rfl,by omega,bcq,by omega,by omega,by have:=HX.out;rw [show unit 2=1 from rfl,Int.mul_one] at this;exact this⟩
      case measure=>simp [intOf];omega
    ·obtain rfl:k=P.length:=by omega
     have hSS:sum=S:=by
      have:=HQ.out;rw [List.drop_length,sumA] at this;exact (Prod.mk.inj (Option.some.inj this)).1
     have q5:¬(604800:Int)≤sum:=by omega
     have HSS:=kj hSS;have hbf:=HB1.out.trans (hbr.mono hsw1);clear hSS;go_wp2;go_ret2;exact ⟨ret_ii (by have hT:=HT.out;simp at hT;rw [hT, ←HSS.out]) rfl,hbf⟩
end RAm
end
end Go.Proofs.YtgmfojgnjdpofaaGreatDoor
