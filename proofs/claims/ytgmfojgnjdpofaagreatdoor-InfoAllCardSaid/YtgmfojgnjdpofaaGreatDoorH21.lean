import Derived.Test.YtgmfojgnjdpofaaGreatDoorH20
import Derived.Test.YtgmfojgnjdpofaaGreatDoorH11
import Derived.Test.YtgmfojgnjdpofaaGreatDoorH15
namespace Go.Proofs.YtgmfojgnjdpofaaGreatDoor
open Go.Proofs.Tryz
section
open Go.RowKit NB
namespace RFmt
open Fmt
theorem bytes_size (l:List Int):(bytesOf l).size=l.length:=by
 unfold bytesOf;show ((l.map fun d=>UInt8.ofNat d.toNat).toArray).size=_;simp
set_option maxHeartbeats 3200000 in
theorem digit1 (n:Int) (h0:0≤n) (h1:n≤9) (w:World):Calls prog 253 #[.int .u64 n] w fun e w'=>e=.returned (.string (bytesOf [48+n]))∧Below w.heap.size w w':=by
 rcases (by omega:n=0∨n=1∨n=2∨n=3∨n=4∨n=5∨n=6∨n=7∨n=8∨n=9) with rfl|rfl|rfl|rfl|rfl|rfl|rfl|rfl|rfl|rfl
 all_goals
  go_enter func253,ntmps253;go_wp2;go_ret;exact ⟨rfl,bcq⟩
def textL (n:Int):List Int:=if n<10 then [48+n] else dig n
end RFmt
end
section
open Go.RowKit NB
namespace RNu
open Rd RWd
theorem one_dig {n:Nat} (h:n<10):Fmt.bytesOf [48+(n:Int)]=ofL (dec n):=by
 rw [dec_small h];unfold Fmt.bytesOf ofL dg
 congr 2
theorem digits:∀ n:Nat,n<1000000000000000000→∀ w:World,Calls prog 253 #[.int .u64 (n:Int)] w fun e w'=>e=.returned (.string (ofL (dec n)))∧Below w.heap.size w w':=by
 intro n
 induction n using Nat.strongRecOn with
 |ind n ih=>
  intro hn w
  by_cases h:n<10
  ·rw [← one_dig h];exact RFmt.digit1 n (by omega) (by omega) w
  ·have c1:=fun W=>ih (n/10) (by omega) (by omega) W;have c2:=fun W=>RFmt.digit1 ((n%10:Nat):Int) (by omega) (by omega) W;rw [one_dig (Nat.mod_lt n (by omega))] at c2;have hd:ofL (dec n)=ofL (dec (n/10))++ofL (dec (n%10)):=by
    rw [ofL_app,dec_step h (by omega),dec_small (Nat.mod_lt n (by omega))]
   have s1:(ofL (dec (n/10))).size≤20:=by
    rw [ofL_size];have:=dec_len 18 (n/10) (by simpa using (by omega:n/10<10000000000000000000)) (by omega);omega
   have s2:(ofL (dec (n%10))).size≤20:=by
    rw [ofL_size];have:=dec_len 18 (n%10) (by simpa using (by omega:n%10<10000000000000000000)) (by omega);omega
   rw [hd];generalize ofL (dec (n/10))=B1 at *;generalize ofL (dec (n%10))=B2 at *;have e1:((n/10:Nat):Int)=(n:Int)/10:=by omega
   have e2:((n%10:Nat):Int)=(n:Int)%10:=by omega
   rw [e1] at c1;rw [e2] at c2;obtain ⟨m,hm⟩:∃ m:Int,m=(n:Int):=⟨_,rfl⟩;have q1:¬m<10:=by omega
   have q2:0≤m:=by omega
   have q3:m<1000000000000000000:=by omega
   rw [← hm] at c1 c2 ⊢;have C1:=kj c1;have C2:=kj c2;have t1:B1.size+B2.size≤9223372036854775807:=by omega
   clear c1 c2 hd ih hm e1 e2 hn h;go_enter func253,ntmps253
   go_wp2_with (first
    |(with_reducible (go_at_call 253;(with_reducible refine (C1.out _).mono ?_);rintro e w1 ⟨rfl,hb1⟩;obtain ⟨hc1,hf1⟩:=bcell hb1))
    |(with_reducible (go_at_call 253;(with_reducible refine (C2.out _).mono ?_);rintro e w2 ⟨rfl,hb2⟩;obtain ⟨hc2,hf2⟩:=bcell hb2)))
   go_ret;exact ⟨rfl,bcq⟩
theorem Text (n:Int) (h0: -1000000000000<n) (h1:n<1000000000000) (w:World):Calls prog 204 #[.int .i64 n] w fun e w'=>e=.returned (.string (ofL (textN n)))∧Below w.heap.size w w':=by
 unfold textN
 by_cases hn:n<0
 ·rw [if_pos hn];obtain ⟨m,hm⟩:∃ m:Nat,(-n).toNat=m:=⟨_,rfl⟩;rw [hm];have c1:=fun W=>digits m (by omega) W;have hd:ofL (45 :: dec m)=⟨#[45]⟩++ofL (dec m):=by
   rw [show (⟨#[45]⟩:ByteArray)=ofL [45] from rfl,ofL_app];rfl
  have s1:(ofL (dec m)).size≤20:=by
   rw [ofL_size];have:=dec_len 18 m (by simpa using (by omega:m<10000000000000000000)) (by omega);omega
  rw [hd];generalize ofL (dec m)=B at *;have e1:(m:Int)= -n:=by omega
  rw [e1,show -n= -(n+1)+1 by omega] at c1;have C1:=kj c1;have t1:(⟨#[45]⟩:ByteArray).size+B.size≤9223372036854775807:=by show 1+_≤_;omega
  have cat1:=fun W=>run_string_add_sum (P:=prog) W ⟨#[45]⟩ B t1;clear c1 hd hm e1;go_enter func204,ntmps204
  go_wp2_with (go_at_call 253;(with_reducible refine (C1.out _).mono ?_);rintro e w1 ⟨rfl,hb1⟩;obtain ⟨hc1,hf1⟩:=bcell hb1)
  go_ret;exact ⟨rfl,bcq⟩
 ·rw [if_neg hn];obtain ⟨m,hm⟩:∃ m:Nat,n.toNat=m:=⟨_,rfl⟩;rw [hm];have c1:=fun W=>digits m (by omega) W;generalize ofL (dec m)=B at *;have e1:(m:Int)=n:=by omega
  rw [e1] at c1;have C1:=kj c1;clear c1 hm e1;go_enter func204,ntmps204
  go_wp2_with (go_at_call 253;(with_reducible refine (C1.out _).mono ?_);rintro e w1 ⟨rfl,hb1⟩;obtain ⟨hc1,hf1⟩:=bcell hb1)
  go_ret;exact ⟨rfl,bcq⟩
end RNu
end
section
open Go.RowKit NB
namespace RAm
open Rd RWd RNu
set_option maxRecDepth 100000 in
theorem part (s:ByteArray) (hs:s.size≤9223372036854775807) (least most:Nat) (hm:most≤3) (_hl:least≤most) (w:World):
 Calls prog 326 #[.string s,.int .i64 least,.int .i64 most] w fun e w'=>e=.returned (.tuple #[.int .i64 (partV s least most).1,.bool (partV s least most).2])∧w=w':=by
 have cd:=fun W=>Digits s hs W;unfold partV
 by_cases h1:s.size<least
 ·rw [if_pos (.inl h1)];have q1:(s.size:Int)<(least:Int):=by omega
  clear cd;go_enter func326,ntmps326;go_wp2;go_ret2;exact ⟨rfl,rfl⟩
 ·by_cases h2:most<s.size
  ·rw [if_pos (.inr (.inl h2))];have q1:¬(s.size:Int)<(least:Int):=by omega
   have q2:(most:Int)<(s.size:Int):=by omega
   clear cd;go_enter func326,ntmps326;go_wp2;go_ret2;exact ⟨rfl,rfl⟩
  ·have q1:¬(s.size:Int)<(least:Int):=by omega
   have q2:¬(most:Int)<(s.size:Int):=by omega
   cases hd:digs s.data.toList with
   |false=>
    rw [hd] at cd;rw [if_pos (.inr (.inr rfl))];have CD:=kj cd;clear cd hd;go_enter func326,ntmps326
    go_wp2_with (go_at_call 340;(with_reducible refine (CD.out _).mono ?_);rintro e w' ⟨rfl,rfl⟩)
    go_ret2;exact ⟨rfl,rfl⟩
   |true=>
    rw [hd] at cd;rw [if_neg (by rintro (h|h|h);exact h1 h;exact h2 h;cases h)];have CD:=kj cd;have hall:s.data.toList.all isD=true:=by
     unfold digs at hd;exact (Bool.and_eq_true_iff.1 hd).2
    have HALL:=kj hall;clear cd hd hall;go_enter func326,ntmps326
    go_wp2_with (go_at_call 340;(with_reducible refine (CD.out _).mono ?_);rintro e w' ⟨rfl,rfl⟩)
    go_loop [9,8] (fun i n=>∃ k:Nat,k≤s.size∧i=.int .i64 k∧n=.int .i64 (val (s.data.toList.take k):Nat)) (fun i _=>s.size-(intOf i).toNat)
    case atStart=>exact ⟨0,Nat.zero_le _,rfl,rfl⟩
    case round=>
     obtain ⟨k,hk,rfl,rfl⟩:=hrel
     by_cases hlt:k<s.size
     ·obtain ⟨V,hV⟩:∃ V,V=val (s.data.toList.take k):=⟨_,rfl⟩;obtain ⟨hc1,hc2,hc3,hc4⟩:=step_facts HALL.out hlt (by omega) hV;have hc5:(V:Int)<1000:=by
       have h3:=val_lt (l:=s.data.toList.take k) (List.all_eq_true.2 fun c hc=>List.all_eq_true.1 HALL.out c (List.mem_of_mem_take hc));have h5:(10:Nat) ^ (s.data.toList.take k).length≤10 ^ 3:=Nat.pow_le_pow_right (by omega) (by rw [List.length_take];omega);have h6:(10:Nat) ^ 3=1000:=by decide
       omega
      rw [← hV];have HS:=kj hc1;clear hc1 hV;go_wp2;go_round
      case rel=>exact ⟨k+1,by omega,by go_num,congrArg (Value.int .i64) (by rw [HS.out];omega)⟩
      case measure=>simp [intOf];omega
     ·obtain rfl:k=s.size:=by omega
      have hV:val (s.data.toList.take s.size)=val s.data.toList:=by rw [List.take_of_length_le (by simp)]
      rw [hV];obtain ⟨V,hV2⟩:∃ V,V=val s.data.toList:=⟨_,rfl⟩;rw [← hV2];have HV:=kj hV2;clear hV hV2;go_wp2;go_ret2;exact ⟨by rw [← HV.out];rfl,rfl⟩
theorem drop_at {s:ByteArray} {k:Nat} (h:k<s.size):s.data.toList.drop k=s[k] :: s.data.toList.drop (k+1):=by
 rw [List.drop_eq_getElem_cons (by simpa using h)];rfl
theorem piece (s:ByteArray) (a k:Nat):ofL ((s.data.toList.take k).drop a)=s.extract a k:=by rw [← ext_list,ofL_self]
theorem piece_succ {s:ByteArray} {a k:Nat} (h:k<s.size) (ha:a≤k):(s.data.toList.take (k+1)).drop a=(s.data.toList.take k).drop a++[s[k]]:=by
 rw [List.take_add_one,bAt h,List.drop_append_of_le_length (by rw [List.length_take];simp;omega)];rfl
theorem piece_nil (s:ByteArray) (k:Nat):(s.data.toList.take k).drop k=[]:=List.drop_eq_nil_of_le (by rw [List.length_take];omega)
def Cut (s:ByteArray) (k a:Nat) (O:List ByteArray):Prop:=(k≤s.size∧a≤k∧O++(cutF ((s.data.toList.take k).drop a) (s.data.toList.drop k)).map ofL=cutB s)∨(k=s.size+1∧O=cutB s)
theorem Cut.here {s:ByteArray} {k a:Nat} {O:List ByteArray} (h:Cut s k a O) (hk:k<s.size) (hc:s[k]=58):Cut s (k+1) (k+1) (O++[s.extract a k]):=by
 rcases h with ⟨_,ha,h⟩|⟨h,_⟩
 ·refine .inl ⟨hk,Nat.le_refl _,?_⟩;rw [drop_at hk,cutF,if_pos hc] at h;rw [piece_nil, ←h, ←piece,List.map_cons,List.append_assoc];rfl
 ·omega
theorem Cut.past {s:ByteArray} {k a:Nat} {O:List ByteArray} (h:Cut s k a O) (hk:k<s.size) (hc:s[k]≠58):Cut s (k+1) a O:=by
 rcases h with ⟨_,ha,h⟩|⟨h,_⟩
 ·refine .inl ⟨hk,by omega,?_⟩;rw [drop_at hk,cutF,if_neg hc] at h;rw [piece_succ hk ha,h]
 ·omega
theorem Cut.last {s:ByteArray} {a:Nat} {O:List ByteArray} (h:Cut s s.size a O):Cut s (s.size+1) (s.size+1) (O++[s.extract a s.size]):=by
 rcases h with ⟨_,ha,h⟩|⟨h,_⟩
 ·refine .inr ⟨rfl,?_⟩;have e:s.data.toList.drop s.size=[]:=List.drop_eq_nil_of_le (by simp);rw [e,cutF] at h;rw [← h, ←piece];rfl
 ·omega
theorem Cut.le {s:ByteArray} {k a:Nat} {O:List ByteArray} (h:Cut s k a O):k≤s.size+1:=by
 rcases h with ⟨h,_⟩|⟨h,_⟩<;>omega
theorem Cut.at_le {s:ByteArray} {k a:Nat} {O:List ByteArray} (h:Cut s k a O) (hk:k≤s.size):a≤k:=by
 rcases h with ⟨_,h,_⟩|⟨h,_⟩<;>omega
theorem Cut.fin {s:ByteArray} {k a:Nat} {O:List ByteArray} (h:Cut s k a O) (hk:¬k≤s.size):O=cutB s:=by
 rcases h with ⟨h,_⟩|⟨_,h⟩
 ·omega
 ·exact h
theorem byte_eq {c:UInt8} (n:UInt8) (h:c=n):((c.toNat:Int)==(n.toNat:Int))=true:=by rw [h];simp
theorem byte_ne {c:UInt8} (n:UInt8) (h:c≠n):((c.toNat:Int)==(n.toNat:Int))=false:=by
 rw [beq_eq_false_iff_ne];exact fun e=>h (UInt8.toNat_inj.1 (by omega))
set_option maxRecDepth 100000 in
theorem cut (s:ByteArray) (hs:s.size≤1000000) (w:World):
 Calls prog 325 #[.string s] w fun e w'=>∃ v',e=.returned v'∧OwnS w' w.heap.size v' (cutB s)∧Below w.heap.size w w':=by
 obtain ⟨i0,hi,hz0,hz1,hz2⟩:=info_parts infoS;have HI:=kj hi;have HZ0:=kj hz0;have HZ1:=kj hz1;have HZ2:=kj hz2;clear hi hz0 hz1 hz2;go_enter func325,ntmps325;go_wp2
 go_loopw [5,4,3] (fun i at' o wr=>∃ (k a m:Nat) (v:Value) (O:List ByteArray),i=.int .i64 k∧at'=.int .i64 a∧o=v∧k≤s.size+1∧a≤s.size+1∧m≤k∧Below w.heap.size w wr∧Hid (OwnR wr w.heap.size v m O)∧Hid (Cut s k a O)) (fun i _ _ _=>s.size+1-(intOf i).toNat)
 case atStart=>exact ⟨0,0,0,_,[],rfl,rfl,rfl,by omega,by omega,by omega,Below.refl _ _,World.ownsRow_nil _ _ _ _,.inl ⟨by omega,by omega,rfl⟩⟩
 case round=>
  obtain ⟨k,a,m,v,O,rfl,rfl,rfl,hk,ha,hm,hbr,HO,HC⟩:=hrel;have hsz:=hbr.size
  by_cases hlt:k<s.size
  ·have hak:=HC.out.at_le (by omega)
   by_cases hc:s[k]=58
   ·have q2:((s[k].toNat:Int)==58)=true:=byte_eq 58 hc;have HC2:=kj (HC.out.here hlt hc);clear hc
    go_wp2_with (at_builtin;refine wpList_append_own _ rfl _ _ 193 rfl (w.heap.size) 9 i0 _ 1 16 underlying193 HI.out HZ0.out HZ1.out HZ2.out rfl (by decide) _ _ _ rfl (World.ownsRow.alloc HO.out _) ⟨_,0,none⟩ 1 1 [.string (s.extract a k)] rfl rfl (cell_one_at (by simp)) (by simp [Value.oneCell']) (by unfold maxLen;omega) (by omega) (by simp;omega) ?_;intro v2 w2 hown2 hgrow2 _)
    have HR1:Hid (OwnR w2 w.heap.size v2 (m+1) (O++[s.extract a k])):=OwnR.snoc hown2;have hb2:Below w.heap.size w w2:=Below.grown (ba hbr) hgrow2 (by simp;omega) (fun j hj=>(HO.out.lt j hj).1);clear hown2 hgrow2;go_roundw
    case rel=>exact ⟨k+1,k+1,m+1,v2,_,by go_num,by go_num,rfl,by omega,by omega,by omega,hb2,HR1,HC2⟩
    case measure=>simp [intOf];omega
   ·have q2:((s[k].toNat:Int)==58)=false:=byte_ne 58 hc;have HC2:=kj (HC.out.past hlt hc);clear hc;go_wp2;go_roundw
    case rel=>exact ⟨k+1,a,m,_,_,by go_num,rfl,rfl,by omega,by omega,by omega,hbr,HO,HC2⟩
    case measure=>simp [intOf];omega
  ·by_cases hle:k≤s.size
   ·obtain rfl:k=s.size:=by omega
    have hak:=HC.out.at_le (by omega);have HC2:=kj HC.out.last
    go_wp2_with (at_builtin;refine wpList_append_own _ rfl _ _ 193 rfl (w.heap.size) 9 i0 _ 1 16 underlying193 HI.out HZ0.out HZ1.out HZ2.out rfl (by decide) _ _ _ rfl (World.ownsRow.alloc HO.out _) ⟨_,0,none⟩ 1 1 [.string (s.extract a s.size)] rfl rfl (cell_one_at (by simp)) (by simp [Value.oneCell']) (by unfold maxLen;omega) (by omega) (by simp;omega) ?_;intro v2 w2 hown2 hgrow2 _)
    have HR1:Hid (OwnR w2 w.heap.size v2 (m+1) (O++[s.extract a s.size])):=OwnR.snoc hown2;have hb2:Below w.heap.size w w2:=Below.grown (ba hbr) hgrow2 (by simp;omega) (fun j hj=>(HO.out.lt j hj).1);clear hown2 hgrow2;go_roundw
    case rel=>exact ⟨s.size+1,s.size+1,m+1,v2,_,by go_num,by go_num,rfl,by omega,by omega,by omega,hb2,HR1,HC2⟩
    case measure=>simp [intOf]
   ·have HC2:=kj (HC.out.fin hle);have q2:¬((k:Int)≤(s.size:Int)):=by omega
    go_wp2;go_ret;exact ⟨_,rfl,by have:=HO.out;rw [HC2.out] at this;exact OwnR.s this,hbr⟩
theorem two (n:Nat) (h:n<100) (w:World):Calls prog 249 #[.int .i64 n] w fun e w'=>e=.returned (.string (ofL (twoL n)))∧Below w.heap.size w w':=by
 have c1:=fun W=>Text n (by omega) (by omega) W;have e1:textN n=dec n:=by unfold textN;rw [if_neg (by omega)];rfl
 rw [e1] at c1;have s1:(ofL (dec n)).size≤20:=by
  rw [ofL_size];have:=dec_len 18 n (by simpa using (by omega:n<10000000000000000000)) (by omega);omega
 unfold twoL
 by_cases h10:n<10
 ·rw [if_pos h10];have hd:ofL (48 :: dec n)=⟨#[48]⟩++ofL (dec n):=by
   rw [show (⟨#[48]⟩:ByteArray)=ofL [48] from rfl,ofL_app];rfl
  rw [hd];generalize ofL (dec n)=B at *;have t1:(⟨#[48]⟩:ByteArray).size+B.size≤9223372036854775807:=by show 1+_≤_;omega
  have cat1:=fun W=>run_string_add_sum (P:=prog) W ⟨#[48]⟩ B t1;have C1:=kj c1;have q1:(n:Int)<10:=by omega
  clear c1 hd e1;go_enter func249,ntmps249
  go_wp2_with (go_at_call 204;(with_reducible refine (C1.out _).mono ?_);rintro e w1 ⟨rfl,hb1⟩;obtain ⟨hc1,hf1⟩:=bcell hb1)
  go_ret;exact ⟨rfl,bcq⟩
 ·rw [if_neg h10];generalize ofL (dec n)=B at *;have C1:=kj c1;have q1:¬(n:Int)<10:=by omega
  clear c1 e1;go_enter func249,ntmps249
  go_wp2_with (go_at_call 204;(with_reducible refine (C1.out _).mono ?_);rintro e w1 ⟨rfl,hb1⟩;obtain ⟨hc1,hf1⟩:=bcell hb1)
  go_ret;exact ⟨rfl,bcq⟩
set_option maxHeartbeats 3200000 in
theorem AText (n:Int) (h0: -604800<n) (h1:n<604800) (w:World):Calls prog 200 #[.int .i64 n] w fun e w'=>e=.returned (.tuple #[.string (ofL (textA n)),.int .i64 0])∧Below w.heap.size w w':=by
 unfold textA;have q1:¬n≤ -604800:=by omega
 have q2:¬604800≤n:=by omega
 by_cases hz:n=0
 ·subst hz;rw [if_pos rfl];go_enter func200,ntmps200;go_wp2;go_ret2;exact ⟨rfl,Below.refl _ _⟩
 ·rw [if_neg hz];obtain ⟨a,S,ha,ha2,hS,hs1,hcase⟩:∃ (a:Nat) (S:ByteArray),0<a∧a<604800∧(if n<0 then ofL (45 :: hmsL (-n).toNat) else ofL (hmsL n.toNat))=S++ofL (hmsL a)∧S.size≤1∧((n<0∧n= -(a:Int)∧S=⟨#[45]⟩)∨(¬ n<0∧n=(a:Int)∧S=⟨#[]⟩)):=by
   by_cases hn:n<0
   ·refine ⟨(-n).toNat,⟨#[45]⟩,by omega,by omega,?_,Nat.le_refl _,.inl ⟨hn,by omega,rfl⟩⟩;rw [if_pos hn,show (⟨#[45]⟩:ByteArray)=ofL [45] from rfl,ofL_app];rfl
   ·refine ⟨n.toNat,⟨#[]⟩,by omega,by omega,?_,Nat.zero_le _,.inr ⟨hn,by omega,rfl⟩⟩;rw [if_neg hn];apply ByteArray.ext;simp
  have hS':(if n<0 then 45 :: hmsL (-n).toNat else hmsL n.toNat)=(S++ofL (hmsL a)).data.toList:=by
   rw [← hS]
   split
   ·rw [ofL_list]
   ·rw [ofL_list]
  rw [hS',ofL_self];clear hS hS';unfold hmsL;have c1:=fun W=>Text ((a/3600:Nat):Int) (by omega) (by omega) W;have e1:textN ((a/3600:Nat):Int)=dec (a/3600):=by unfold textN;rw [if_neg (by omega)];rfl
  rw [e1] at c1;have c2:=fun W=>two (a/60%60) (by omega) W;have c3:=fun W=>two (a%60) (by omega) W;have s1:(ofL (dec (a/3600))).size≤3:=by
   rw [ofL_size];exact dec_len 2 _ (by simpa using (by omega:a/3600<1000)) (by omega)
  have s2:(ofL (twoL (a/60%60))).size=2:=by rw [ofL_size];exact two_len (by omega)
  have s3:(ofL (twoL (a%60))).size=2:=by rw [ofL_size];exact two_len (by omega)
  have assoc:∀ a b c:ByteArray,a++(b++c)=a++b++c:=fun a b c=>by apply ByteArray.ext;simp
  obtain ⟨R,hR⟩:∃ R,R=S++ofL (dec (a/3600)++58 :: (twoL (a/60%60)++if 0<a%60 then 58 :: twoL (a%60) else [])):=⟨_,rfl⟩;rw [← hR];have hR':R=if 0<a%60 then S++ofL (dec (a/3600))++⟨#[58]⟩++ofL (twoL (a/60%60))++(⟨#[58]⟩++ofL (twoL (a%60))) else S++ofL (dec (a/3600))++⟨#[58]⟩++ofL (twoL (a/60%60)):=by
   rw [hR,show (⟨#[58]⟩:ByteArray)=ofL [58] from rfl]
   by_cases g:0<a%60
   ·rw [if_pos g,if_pos g];simp only [← assoc,ofL_app];simp
   ·rw [if_neg g,if_neg g];simp only [← assoc,ofL_app];simp
  clear hR assoc e1;generalize ofL (dec (a/3600))=D1 at *;generalize ofL (twoL (a/60%60))=D2 at *;generalize ofL (twoL (a%60))=D3 at *;have hz58:(⟨#[58]⟩:ByteArray).size=1:=rfl;obtain ⟨C,hC⟩:∃ C,C=(⟨#[58]⟩:ByteArray):=⟨_,rfl⟩;rw [← hC] at hR' hz58;have z1:(S++D1).size=S.size+D1.size:=ByteArray.size_append;have z2:(S++D1++C).size=(S++D1).size+C.size:=ByteArray.size_append;have z3:(S++D1++C++D2).size=(S++D1++C).size+D2.size:=ByteArray.size_append;have y1:(C++D3).size=C.size+D3.size:=ByteArray.size_append;obtain ⟨A,hA⟩:∃ A:Int,A=(a:Int):=⟨_,rfl⟩;have d1:((a/3600:Nat):Int)=A/3600:=by omega
  have d2:((a/60%60:Nat):Int)=A/60%60:=by omega
  have d3:((a%60:Nat):Int)=A%60:=by omega
  rw [d1] at c1;rw [d2] at c2;rw [d3] at c3;rw [← hA] at hcase;have C1:=kj c1;have C2:=kj c2;have C3:=kj c3;have HR:=kj hR';have p1:0<A:=by omega
  have p2:A<604800:=by omega
  have HM:Hid (0<a%60↔0<A%60):=by unfold Hid;omega
  clear c1 c2 c3 hR' d1 d2 d3 hA;have cat1:=fun W=>run_string_add_sum (P:=prog) W S D1 (by omega);have cat2:=fun W=>run_string_add_sum (P:=prog) W (S++D1) C (by omega);have cat3:=fun W=>run_string_add_sum (P:=prog) W (S++D1++C) D2 (by omega);have cat4:=fun W=>run_string_add_sum (P:=prog) W C D3 (by omega);have cat5:=fun W=>run_string_add_sum (P:=prog) W (S++D1++C++D2) (C++D3) (by omega);have l1:¬(9223372036854775807<S.size+D1.size):=by omega
  have l2:¬(9223372036854775807<(S++D1).size+C.size):=by omega
  have l3:¬(9223372036854775807<(S++D1++C).size+D2.size):=by omega
  have l4:¬(9223372036854775807<C.size+D3.size):=by omega
  have l5:¬(9223372036854775807<(S++D1++C++D2).size+(C++D3).size):=by omega
  subst hC;have r1:0≤A/60:=by omega
  have r2:0≤A%60:=by omega
  have r3:0≤A/3600:=by omega
  have r4:0≤A/60%60:=by omega
  clear s1 s2 s3 z1 z2 z3 y1 hs1 hz58 ha ha2 h0 h1;rcases hcase with ⟨hn,ho,hSS⟩|⟨hn,ho,hSS⟩
  all_goals
   have ho':=ho.symm;subst ho';clear ho;have hw:wrap64 (-(-A))=A:=by unfold wrap64;omega
   have hnn: - -A=A:=by omega
   by_cases g:0<A%60
   all_goals
    have hRR:=HR.out
    (try rw [if_pos (HM.out.2 g)] at hRR)
    (try rw [if_neg (fun h=>g (HM.out.1 h))] at hRR)
    have HRR:=kj hRR;clear hRR;subst hSS;go_enter func200,ntmps200
    go_wp2_with (first
     |(with_reducible (go_at_call 204;(with_reducible refine (C1.out _).mono ?_);rintro e w1 ⟨rfl,hb1⟩;obtain ⟨hc1,hf1⟩:=bcell hb1))
     |(with_reducible (go_at_call 249;(with_reducible refine (C2.out _).mono ?_);rintro e w2 ⟨rfl,hb2⟩;obtain ⟨hc2,hf2⟩:=bcell hb2))
     |(with_reducible (go_at_call 249;(with_reducible refine (C3.out _).mono ?_);rintro e w3 ⟨rfl,hb3⟩;obtain ⟨hc3,hf3⟩:=bcell hb3)))
    go_ret2;exact ⟨congrArg (fun x=>Ending.returned (Value.tuple #[Value.string x,.int .i64 0])) HRR.out.symm,bcq⟩
end RAm
end
section
open Go.RowKit NB
namespace RLi
open Rd RWd RNu RAm
def LinesAt (s:ByteArray) (k a:Nat) (O:List ByteArray):Prop:=a≤k∧O++(linesF ((s.data.toList.take k).drop a) (s.data.toList.drop k)).map ofL=linesB s
theorem LinesAt.here {s:ByteArray} {k a:Nat} {O:List ByteArray} (h:LinesAt s k a O) (hk:k<s.size) (hc:s[k]=10):LinesAt s (k+1) (k+1) (O++[s.extract a k]):=by
 obtain ⟨ha,h⟩:=h;refine ⟨Nat.le_refl _,?_⟩;rw [drop_at hk,linesF_cons,if_pos hc] at h;rw [piece_nil, ←h, ←piece,List.map_cons,List.append_assoc];rfl
theorem LinesAt.past {s:ByteArray} {k a:Nat} {O:List ByteArray} (h:LinesAt s k a O) (hk:k<s.size) (hc:s[k]≠10):LinesAt s (k+1) a O:=by
 obtain ⟨ha,h⟩:=h;refine ⟨by omega,?_⟩;rw [drop_at hk,linesF_cons,if_neg hc] at h;rw [piece_succ hk ha,h]
theorem LinesAt.fin {s:ByteArray} {a:Nat} {O:List ByteArray} (h:LinesAt s s.size a O) (ha:a<s.size):O++[s.extract a s.size]=linesB s:=by
 obtain ⟨_,h⟩:=h;have e:s.data.toList.drop s.size=[]:=List.drop_eq_nil_of_le (by simp);rw [e] at h;rw [← h, ←piece];cases hl:(s.data.toList.take s.size).drop a with
 |nil=>
  have:=congrArg List.length hl;rw [List.length_drop,List.length_take,len_list] at this;simp at this;omega
 |cons c r=>rfl
theorem LinesAt.fin0 {s:ByteArray} {a:Nat} {O:List ByteArray} (h:LinesAt s s.size a O) (ha:¬a<s.size):O=linesB s:=by
 obtain ⟨_,h⟩:=h;have e:s.data.toList.drop s.size=[]:=List.drop_eq_nil_of_le (by simp);have e2:(s.data.toList.take s.size).drop a=[]:=List.drop_eq_nil_of_le (by rw [List.length_take];simp;omega);rw [e,e2,linesF] at h
 simpa using h
set_option maxRecDepth 100000 in
theorem Of (s:ByteArray) (hs:s.size≤1000000) (w:World):
 Calls prog 205 #[.string s] w fun e w'=>∃ v',e=.returned v'∧OwnS w' w.heap.size v' (linesB s)∧Below w.heap.size w w':=by
 obtain ⟨i0,hi,hz0,hz1,hz2⟩:=info_parts infoS;have HI:=kj hi;have HZ0:=kj hz0;have HZ1:=kj hz1;have HZ2:=kj hz2;clear hi hz0 hz1 hz2;go_enter func205,ntmps205;go_wp2
 go_loopw [5,4,3] (fun i at' o wr=>∃ (k a m:Nat) (v:Value) (O:List ByteArray),i=.int .i64 k∧at'=.int .i64 a∧o=v∧k≤s.size∧a≤k∧m≤k∧Below w.heap.size w wr∧Hid (OwnR wr w.heap.size v m O)∧Hid (LinesAt s k a O)) (fun i _ _ _=>s.size-(intOf i).toNat)
 case atStart=>exact ⟨0,0,0,_,[],rfl,rfl,rfl,by omega,by omega,by omega,Below.refl _ _,World.ownsRow_nil _ _ _ _,by omega,rfl⟩
 case round=>
  obtain ⟨k,a,m,v,O,rfl,rfl,rfl,hk,ha,hm,hbr,HO,HC⟩:=hrel;have hsz:=hbr.size
  by_cases hlt:k<s.size
  ·by_cases hc:s[k]=10
   ·have q2:((s[k].toNat:Int)==10)=true:=byte_eq 10 hc;have HC2:=kj (HC.out.here hlt hc);clear hc
    go_wp2_with (at_builtin;refine wpList_append_own _ rfl _ _ 193 rfl (w.heap.size) 9 i0 _ 1 16 underlying193 HI.out HZ0.out HZ1.out HZ2.out rfl (by decide) _ _ _ rfl (World.ownsRow.alloc HO.out _) ⟨_,0,none⟩ 1 1 [.string (s.extract a k)] rfl rfl (cell_one_at (by simp)) (by simp [Value.oneCell']) (by unfold maxLen;omega) (by omega) (by simp;omega) ?_;intro v2 w2 hown2 hgrow2 _)
    have HR1:Hid (OwnR w2 w.heap.size v2 (m+1) (O++[s.extract a k])):=OwnR.snoc hown2;have hb2:Below w.heap.size w w2:=Below.grown (ba hbr) hgrow2 (by simp;omega) (fun j hj=>(HO.out.lt j hj).1);clear hown2 hgrow2;go_roundw
    case rel=>exact ⟨k+1,k+1,m+1,v2,_,by go_num,by go_num,rfl,by omega,by omega,by omega,hb2,HR1,HC2⟩
    case measure=>simp [intOf];omega
   ·have q2:((s[k].toNat:Int)==10)=false:=byte_ne 10 hc;have HC2:=kj (HC.out.past hlt hc);clear hc;go_wp2;go_roundw
    case rel=>exact ⟨k+1,a,m,_,_,by go_num,rfl,rfl,by omega,by omega,by omega,hbr,HO,HC2⟩
    case measure=>simp [intOf];omega
  ·obtain rfl:k=s.size:=by omega
   by_cases hat:a<s.size
   ·have HC2:=kj (HC.out.fin hat);have q2:(a:Int)<(s.size:Int):=by omega
    go_wp2_with (at_builtin;refine wpList_append_own _ rfl _ _ 193 rfl (w.heap.size) 9 i0 _ 1 16 underlying193 HI.out HZ0.out HZ1.out HZ2.out rfl (by decide) _ _ _ rfl (World.ownsRow.alloc HO.out _) ⟨_,0,none⟩ 1 1 [.string (s.extract a s.size)] rfl rfl (cell_one_at (by simp)) (by simp [Value.oneCell']) (by unfold maxLen;omega) (by omega) (by simp;omega) ?_;intro v2 w2 hown2 hgrow2 _)
    have HR1:Hid (OwnR w2 w.heap.size v2 (m+1) (O++[s.extract a s.size])):=OwnR.snoc hown2;have hb2:Below w.heap.size w w2:=Below.grown (ba hbr) hgrow2 (by simp;omega) (fun j hj=>(HO.out.lt j hj).1);clear hown2 hgrow2;go_ret;exact ⟨_,rfl,by have:=HR1.out;rw [HC2.out] at this;exact OwnR.s this,hb2⟩
   ·have HC2:=kj (HC.out.fin0 hat);have q2:¬(a:Int)<(s.size:Int):=by omega
    go_wp2;go_ret;exact ⟨_,rfl,by have:=HO.out;rw [HC2.out] at this;exact OwnR.s this,hbr⟩
def okB (c:UInt8):Bool:=decide (c=9)||decide (32≤c.toNat∧c.toNat≤126)
def lineE (s:ByteArray):Int:=if 511<s.size then 9 else if s.data.toList.all okB=true then 0 else 7
theorem Check (s:ByteArray) (h:lineE s=0) (w:World):Calls prog 254 #[.string s] w fun e w'=>e=.returned (.int .i64 0)∧w=w':=by
 have h1:¬511<s.size:=fun h1=>by unfold lineE at h;rw [if_pos h1] at h;cases h
 have h2:s.data.toList.all okB=true:=by
  unfold lineE at h;rw [if_neg h1] at h;cases ha:s.data.toList.all okB with
  |true=>rfl
  |false=>rw [ha,if_neg (by decide)] at h;cases h
 have HA:=kj h2;clear h h2;go_enter func254,ntmps254;go_wp2
 go_loop [3] (fun i=>∃ k:Nat,k≤s.size∧i=.int .i64 k) (fun i=>s.size-(intOf i).toNat)
 case atStart=>exact ⟨0,Nat.zero_le _,rfl⟩
 case round=>
  obtain ⟨k,hk,rfl⟩:=hrel
  by_cases hlt:k<s.size
  ·have hc:s[k]=9∨(s[k]≠9∧32≤s[k].toNat∧s[k].toNat≤126):=by
    have:=List.all_eq_true.1 HA.out _ (List.mem_of_getElem? (bAt hlt));unfold okB at this;simp only [Bool.or_eq_true,decide_eq_true_eq] at this
    by_cases h9:s[k]=9
    ·exact .inl h9
    ·exact .inr ⟨h9,this.resolve_left h9⟩
   rcases hc with hc|⟨hc,hc2,hc3⟩
   ·have q2:(s[k].toNat:Int)=9:=by rw [hc];rfl
    clear hc;go_wp2;go_round
    case rel=>exact ⟨k+1,by omega,by go_num⟩
    case measure=>simp [intOf];omega
   ·have q2:((s[k].toNat:Int)==9)=false:=byte_ne 9 hc;have q3:¬(s[k].toNat:Int)<32:=by omega
    have q4:¬(126:Int)<(s[k].toNat:Int):=by omega
    clear hc;go_wp2;go_round
    case rel=>exact ⟨k+1,by omega,by go_num⟩
    case measure=>simp [intOf];omega
  ·obtain rfl:k=s.size:=by omega
   go_wp2;go_ret;exact ⟨rfl,rfl⟩
theorem blank (c:UInt8) (w:World):Calls prog 289 #[.int .u8 (c.toNat:Int)] w fun e w'=>e=.returned (.bool (blankC c))∧w=w':=by
 unfold blankC
 by_cases h9:c=9
 ·subst h9;go_enter func289,ntmps289;go_wp2;go_ret;exact ⟨rfl,rfl⟩
 ·have q1:((c.toNat:Int)==9)=false:=byte_ne 9 h9
  by_cases h32:c=32
  ·subst h32;go_enter func289,ntmps289;go_wp2;go_ret;exact ⟨rfl,rfl⟩
  ·have q2:((c.toNat:Int)==32)=false:=byte_ne 32 h32;rw [decide_eq_false (by rintro (h|h);exact h9 h;exact h32 h)];clear h9 h32;go_enter func289,ntmps289;go_wp2;go_ret;exact ⟨rfl,rfl⟩
theorem FText (f:ByteArray) (hf:Rd.Clean f.data.toList) (hs:f.size≤1000000) (w:World):Calls prog 252 #[.string f] w fun e w'=>e=.returned (.tuple #[.string f,.int .i64 0])∧w=w':=by
 have e0:f.toList.isEmpty=false:=by
  rw [ByteArray.toList_eq];cases h:f.data.toList with
  |nil=>exact absurd h hf.1
  |cons a b=>rfl
 have HF:=kj hf;clear hf;go_enter func252,ntmps252;go_wp2
 go_loop [5,4] (fun i p=>∃ k:Nat,k≤f.size∧i=.int .i64 k∧p=.bool true) (fun i _=>f.size-(intOf i).toNat)
 case atStart=>exact ⟨0,Nat.zero_le _,rfl,rfl⟩
 case round=>
  obtain ⟨k,hk,rfl,rfl⟩:=hrel
  by_cases hlt:k<f.size
  ·obtain ⟨c1,c2,c3,_⟩:=clean_c (HF.out.2 _ (List.mem_of_getElem? (bAt hlt)));have cb:=fun W=>blank f[k] W;rw [c2] at cb;have q2:((f[k].toNat:Int)==34)=false:=byte_ne 34 c3;have q3:((f[k].toNat:Int)==35)=false:=byte_ne 35 c1;have CB:=kj cb;clear c1 c2 c3 cb
   go_wp2_with (go_at_call 289;(with_reducible refine (CB.out _).mono ?_);rintro e w' ⟨rfl,rfl⟩)
   go_round
   case rel=>exact ⟨k+1,by omega,by go_num,rfl⟩
   case measure=>simp [intOf];omega
  ·obtain rfl:k=f.size:=by omega
   go_wp2;go_ret2;exact ⟨rfl,rfl⟩
theorem cat_one (s:ByteArray) {k:Nat} (hk:k<s.size) (f:Bs):ofL f++s.extract k (k+1)=ofL (f++[s[k]]):=by
 rw [← piece,piece_succ hk (Nat.le_refl _),piece_nil,List.nil_append,ofL_app]
def Fl (s:ByteArray) (k:Nat) (f:Bs) (o:Bool) (O:List Bs):Prop:=
 (k≤s.size∧ofF f o false O (s.data.toList.drop k)=ofF [] false false [] s.data.toList)∨(k=s.size+1∧some O=ofF [] false false [] s.data.toList)
theorem Fl.blank {s:ByteArray} {k:Nat} {f:Bs} {o:Bool} {O:List Bs} (h:Fl s k f o O) (hk:k<s.size) (h35:s[k]≠35) (hb:blankC s[k]=true):Fl s (k+1) [] false (if o=true then O++[f] else O):=by
 rcases h with ⟨_,h⟩|⟨h,_⟩
 ·refine .inl ⟨hk,?_⟩;rw [drop_at hk,ofF,if_neg h35,if_pos hb] at h;exact h
 ·omega
theorem Fl.byte {s:ByteArray} {k:Nat} {f:Bs} {o:Bool} {O:List Bs} (h:Fl s k f o O) (hk:k<s.size) (h35:s[k]≠35) (h34:s[k]≠34) (hb:blankC s[k]=false):Fl s (k+1) (f++[s[k]]) true O:=by
 rcases h with ⟨_,h⟩|⟨h,_⟩
 ·refine .inl ⟨hk,?_⟩;rw [drop_at hk,ofF,if_neg h35,hb,if_neg (by decide),if_neg h34] at h;exact h
 ·omega
theorem Fl.last {s:ByteArray} {f:Bs} {o:Bool} {O:List Bs} (h:Fl s s.size f o O):Fl s (s.size+1) [] false (if o=true then O++[f] else O):=by
 rcases h with ⟨_,h⟩|⟨h,_⟩
 ·refine .inr ⟨rfl,?_⟩;have e:s.data.toList.drop s.size=[]:=List.drop_eq_nil_of_le (by simp);rw [e,ofF] at h;exact h
 ·omega
theorem Fl.fin {s:ByteArray} {k:Nat} {f:Bs} {o:Bool} {O:List Bs} (h:Fl s k f o O) (hk:¬k≤s.size):some O=ofF [] false false [] s.data.toList:=by
 rcases h with ⟨h,_⟩|⟨_,h⟩
 ·omega
 ·exact h
theorem own_form {w:World} {base:Nat} {e:TypeId} {sz:Nat} {v:Value} {n:Nat} {xs:List Value} (h:w.ownsRow base e sz v n xs):∃ p c,v=.slice p n c:=by
 rcases h.2 with ⟨rfl,rfl⟩|⟨g,c,cur,rfl,_⟩
 ·exact ⟨_,_,rfl⟩
 ·exact ⟨_,_,rfl⟩
theorem OwnR.map_snoc {w:World} {base m:Nat} {v:Value} {l:List Bs} {f:Bs} (h:w.ownsRow base 9 1 v m ((l.map ofL).flatMap strc++[.string (ofL f)])):OwnR w base v m ((l++[f]).map ofL):=by
 rw [List.map_append];exact OwnR.snoc h
set_option maxRecDepth 100000 in
set_option maxHeartbeats 3200000 in
theorem Fields (s:ByteArray) (hs:s.size≤1000000) (hc:∀ c∈s.data.toList,c≠34∧c≠35) (hok:(fieldsB s).2=0) (w:World):
 Calls prog 255 #[.string s] w fun e w'=>∃ v',e=.returned (.tuple #[v',.int .i64 0])∧OwnS w' w.heap.size v' (fieldsB s).1∧Below w.heap.size w w':=by
 obtain ⟨L,hL,hL16,hLv⟩:∃ L,ofF [] false false [] s.data.toList=some L∧L.length≤16∧(fieldsB s).1=L.map ofL:=by
  unfold fieldsB at hok ⊢;cases h:ofF [] false false [] s.data.toList with
  |none=>rw [h] at hok;cases hok
  |some L=>
   rw [h] at hok;dsimp only at hok ⊢
   by_cases h16:16<L.length
   ·rw [if_pos h16] at hok;cases hok
   ·rw [if_neg h16];exact ⟨L,rfl,by omega,rfl⟩
 rw [hLv];obtain ⟨i0,hi,hz0,hz1,hz2⟩:=info_parts infoS;have HI:=kj hi;have HZ0:=kj hz0;have HZ1:=kj hz1;have HZ2:=kj hz2;have HC:=kj hc;have HL:=kj hL;clear hi hz0 hz1 hz2 hc hok hLv hL;go_enter func255,ntmps255;go_wp2
 go_loopw [8,4,5,6,7] (fun i o' f' p q wr=>∃ (k m:Nat) (v:Value) (f:Bs) (o:Bool) (O:List Bs),i=.int .i64 k∧o'=v∧f'=.string (ofL f)∧p=.bool o∧q=.bool false∧k≤s.size+1∧m≤k∧f.length≤k∧Below w.heap.size w wr∧Hid (OwnR wr w.heap.size v m (O.map ofL))∧Hid (Fl s k f o O)) (fun i _ _ _ _ _=>s.size+1-(intOf i).toNat)
 case atStart=>exact ⟨0,0,_,[],false,[],rfl,rfl,rfl,rfl,rfl,by omega,by omega,by simp,Below.refl _ _,World.ownsRow_nil _ _ _ _,.inl ⟨by omega,rfl⟩⟩
 case round=>
  obtain ⟨k,m,v,f,o,O,rfl,rfl,rfl,rfl,rfl,hk,hm,hf,hbr,HO,HF⟩:=hrel;have hsz:=hbr.size
  by_cases hlt:k<s.size
  ·obtain ⟨h34,h35⟩:=HC.out _ (List.mem_of_getElem? (bAt hlt));have q2:((s[k].toNat:Int)==34)=false:=byte_ne 34 h34;have q3:((s[k].toNat:Int)==35)=false:=byte_ne 35 h35;have q4:((k:Int)==(s.size:Int))=false:=by rw [beq_eq_false_iff_ne];omega
   have cb:=fun W=>blank s[k] W;cases hb:blankC s[k] with
   |true=>
    have HF2:=kj (HF.out.blank hlt h35 hb);rw [hb] at cb;have CB:=kj cb;clear h34 h35 hb cb;cases o with
    |true=>
     go_wp2_with (first
      |(go_at_call 289;(with_reducible refine (CB.out _).mono ?_);rintro e w' ⟨rfl,rfl⟩)
      |(at_builtin;refine wpList_append_own _ rfl _ _ 193 rfl (w.heap.size) 9 i0 _ 1 16 underlying193 HI.out HZ0.out HZ1.out HZ2.out rfl (by decide) _ _ _ rfl (World.ownsRow.alloc HO.out _) ⟨_,0,none⟩ 1 1 [.string (ofL f)] rfl rfl (cell_one_at (by simp)) (by simp [Value.oneCell']) (by unfold maxLen;omega) (by omega) (by simp;omega) ?_;intro v2 w2 hown2 hgrow2 _))
     have HR1:Hid (OwnR w2 w.heap.size v2 (m+1) ((O++[f]).map ofL)):=OwnR.map_snoc hown2;have hb2:Below w.heap.size w w2:=Below.grown (ba hbr) hgrow2 (by simp;omega) (fun j hj=>(HO.out.lt j hj).1);clear hown2 hgrow2;go_roundw
     case rel=>exact ⟨k+1,m+1,v2,[],false,_,by go_num,rfl,rfl,rfl,rfl,by omega,by omega,by simp,hb2,HR1,HF2⟩
     case measure=>simp [intOf];omega
    |false=>
     go_wp2_with (first
      |(go_at_call 289;(with_reducible refine (CB.out _).mono ?_);rintro e w' ⟨rfl,rfl⟩))
     go_roundw
     case rel=>exact ⟨k+1,m,_,[],false,_,by go_num,rfl,rfl,rfl,rfl,by omega,by omega,by simp,hbr,HO,HF2⟩
     case measure=>simp [intOf];omega
   |false=>
    have HF2:=kj (HF.out.byte hlt h35 h34 hb);rw [hb] at cb;have CB:=kj cb;have hcat:=cat_one s hlt f;have hxs:(s.extract k (k+1)).size≤1:=by rw [ByteArray.size_extract];omega
    have hfs:(ofL f).size≤1000000:=by rw [ofL_size];omega
    have HCAT:=kj hcat;have cat1:=fun W=>run_string_add_sum (P:=prog) W (ofL f) (s.extract k (k+1)) (by omega);rw [hcat] at cat1;have t1:¬(9223372036854775807<(ofL f).size+(s.extract k (k+1)).size):=by omega
    clear h34 h35 hb cb hcat
    go_wp2_with (first
     |(go_at_call 289;(with_reducible refine (CB.out _).mono ?_);rintro e w' ⟨rfl,rfl⟩))
    go_roundw
    case rel=>exact ⟨k+1,m,_,f++[s[k]],true,O,by go_num,rfl,rfl,rfl,rfl,by omega,by omega,by simp;omega,hbr,HO,HF2⟩
    case measure=>simp [intOf];omega
  ·by_cases hle:k≤s.size
   ·obtain rfl:k=s.size:=by omega
    have HF2:=kj HF.out.last;cases o with
    |true=>
     go_wp2_with (at_builtin;refine wpList_append_own _ rfl _ _ 193 rfl (w.heap.size) 9 i0 _ 1 16 underlying193 HI.out HZ0.out HZ1.out HZ2.out rfl (by decide) _ _ _ rfl (World.ownsRow.alloc HO.out _) ⟨_,0,none⟩ 1 1 [.string (ofL f)] rfl rfl (cell_one_at (by simp)) (by simp [Value.oneCell']) (by unfold maxLen;omega) (by omega) (by simp;omega) ?_;intro v2 w2 hown2 hgrow2 _)
     have HR1:Hid (OwnR w2 w.heap.size v2 (m+1) ((O++[f]).map ofL)):=OwnR.map_snoc hown2;have hb2:Below w.heap.size w w2:=Below.grown (ba hbr) hgrow2 (by simp;omega) (fun j hj=>(HO.out.lt j hj).1);clear hown2 hgrow2;go_roundw
     case rel=>exact ⟨s.size+1,m+1,v2,[],false,_,by go_num,rfl,rfl,rfl,rfl,by omega,by omega,by simp,hb2,HR1,HF2⟩
     case measure=>simp [intOf]
    |false=>
     go_wp2;go_roundw
     case rel=>exact ⟨s.size+1,m,_,[],false,_,by go_num,rfl,rfl,rfl,rfl,by omega,by omega,by simp,hbr,HO,HF2⟩
     case measure=>simp [intOf]
   ·have hfin:=HF.out.fin hle;rw [HL.out] at hfin;have hfin:=Option.some.inj hfin;subst hfin;have hlen:=OwnR.len HO.out;rw [List.length_map] at hlen;obtain ⟨pv,cv,rfl⟩:=own_form HO.out;have q2:¬((k:Int)≤(s.size:Int)):=by omega
    have q5:¬((16:Int)<(m:Int)):=by omega
    go_wp2;go_ret2;exact ⟨_,rfl,OwnR.s HO.out,hbr⟩
set_option maxRecDepth 100000 in
theorem Join {w:World} {v:Value} {l:List ByteArray} (h:HoldsS w v l) (h0:l≠[]) (hl:l.length≤16) (hc:∀ x∈l,Rd.Clean x.data.toList∧x.size≤1000):
 Calls prog 203 #[v] w fun e w'=>e=.returned (.tuple #[.string (ofL (joinF (l.map fun s=>s.data.toList))),.int .i64 0])∧w=w':=by
 obtain ⟨p,cap,rfl,hp⟩:=h.pk1;obtain ⟨n,hn⟩:∃ n,n=l.length:=⟨_,rfl⟩;rw [← hn] at hl ⊢;obtain ⟨R,hR⟩:∃ R,R=ofL (joinF (l.map fun s=>s.data.toList)):=⟨_,rfl⟩;rw [← hR];have HP:=kj hp;have HC:=kj hc;have HN:=kj hn;have HR:=kj hR;have hpos:0<n:=by rw [hn];exact List.length_pos_iff.2 h0
 clear hp hc hn hR h h0;have q5:¬(16:Int)<(n:Int):=by omega
 go_enter func203,ntmps203;go_wp2
 go_loop [14,4] (fun i t=>∃ (k:Nat) (S:ByteArray),k≤n∧i=.int .i64 k∧t=.string S∧S.size≤k*2000∧Hid (S=ofL (joinF ((l.take k).map fun s=>s.data.toList)))) (fun i _=>n-(intOf i).toNat)
 case atStart=>exact ⟨0,⟨#[]⟩,Nat.zero_le _,rfl,rfl,Nat.zero_le _,rfl⟩
 case round=>
  obtain ⟨k,S,hk,rfl,rfl,hsz,HS⟩:=hrel
  by_cases hlt:k<n
  ·obtain ⟨x,hx⟩:∃ x,l[k]? =some x:=⟨_,List.getElem?_eq_getElem (by rw [← HN.out];exact hlt)⟩;obtain ⟨g1,o1,rfl,hg1,d1⟩:=HP.out k x hx;obtain ⟨hcl,hxs⟩:=HC.out x (List.mem_of_getElem? hx);have q1:(k:Int)<(n:Int):=by omega
   have cf:=fun W=>FText x hcl (by omega) W;have CF:=kj cf;have htk:(l.take (k+1)).map (fun s=>s.data.toList)=(l.take k).map (fun s=>s.data.toList)++[x.data.toList]:=by
    rw [List.take_add_one,hx,List.map_append];rfl
   have hkn:k≤16:=by omega
   by_cases hk0:k=0
   ·subst hk0;have hS0:S=⟨#[]⟩:=by rw [HS.out];rfl
    have hnew:⟨#[]⟩++x=ofL (joinF ((l.take 1).map fun s=>s.data.toList)):=by
     have htk:(l.take 1).map (fun s=>s.data.toList)=(l.take 0).map (fun s=>s.data.toList)++[x.data.toList]:=htk;rw [htk];show _=ofL x.data.toList;rw [ofL_self];apply ByteArray.ext;simp
    have cat1:=fun W=>run_string_add_sum (P:=prog) W ⟨#[]⟩ x (by show 0+_≤_;omega);have t1:¬(9223372036854775807<(⟨#[]⟩:ByteArray).size+x.size):=by show ¬(_ < 0+_);omega
    have hsz1:((⟨#[]⟩:ByteArray)++x).size≤1*2000:=by rw [ByteArray.size_append];show 0+_≤_;omega
    subst hS0;have HT:=kj hnew;rw [Nat.add_zero] at d1;clear hcl cf hx htk hnew HS
    go_wp2_with (go_at_call 252;(with_reducible refine (CF.out _).mono ?_);rintro e w' ⟨rfl,rfl⟩)
    go_round
    case rel=>exact ⟨1,_,by omega,by go_num,rfl,hsz1,HT.out⟩
    case measure=>simp [intOf];omega
   ·have hnew:S++⟨#[32]⟩++x=ofL (joinF ((l.take (k+1)).map fun s=>s.data.toList)):=by
     rw [htk,join_snoc _ _ (by
      intro e;have:=congrArg List.length e;rw [List.length_map,List.length_take,List.length_nil] at this;have hnn:=HN.out;omega),HS.out,show (⟨#[32]⟩:ByteArray)=ofL [32] from rfl, ←ofL_self x,ofL_app,ofL_app,ofL_list]
     simp
    have z1:(S++⟨#[32]⟩).size=S.size+1:=ByteArray.size_append;have z2:(S++⟨#[32]⟩++x).size=(S++⟨#[32]⟩).size+x.size:=ByteArray.size_append;have cat1:=fun W=>run_string_add_sum (P:=prog) W S ⟨#[32]⟩ (by show _+1≤_;omega);have cat2:=fun W=>run_string_add_sum (P:=prog) W (S++⟨#[32]⟩) x (by omega);have t1:¬(9223372036854775807<S.size+(⟨#[32]⟩:ByteArray).size):=by show ¬(_ < _+1);omega
    have t2:¬(9223372036854775807<(S++⟨#[32]⟩).size+x.size):=by omega
    have hsz1:(S++⟨#[32]⟩++x).size≤(k+1)*2000:=by omega
    have q3:(0:Int)<(k:Int):=by omega
    have HT:=kj hnew;have HZ:=kj hsz1;clear hcl cf hx htk hnew HS z1 z2 hsz1
    go_wp2_with (go_at_call 252;(with_reducible refine (CF.out _).mono ?_);rintro e w' ⟨rfl,rfl⟩)
    go_round
    case rel=>exact ⟨k+1,_,by omega,by go_num,rfl,HZ.out,HT.out⟩
    case measure=>simp [intOf];omega
  ·obtain rfl:k=n:=by omega
   have hR2:S=R:=by
    rw [HS.out,HR.out,List.take_of_length_le (by rw [← HN.out];exact Nat.le_refl _)]
   subst hR2;go_wp2;go_ret2;exact ⟨rfl,rfl⟩
end RLi
end
end Go.Proofs.YtgmfojgnjdpofaaGreatDoor
