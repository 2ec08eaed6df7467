import Derived.Test.YtgmfojgnjdpofaaGreatDoorH8
import Derived.Test.YtgmfojgnjdpofaaGreatDoorH10
import Derived.Test.YtgmfojgnjdpofaaGreatDoorH3
import Derived.Test.YtgmfojgnjdpofaaGreatDoorH4
import Derived.Deep.AppendLies
import Derived.Test.YtgmfojgnjdpofaaGreatDoorH1
import Derived.Maps.Own
import Derived.Maps.AppendAt
import Derived.Laws.AppendOwn
namespace Go.Proofs.YtgmfojgnjdpofaaGreatDoor
open Go.Proofs.Tryz
section
open Go.RowKit NB Fmt
namespace RFmt
def St (l:List UInt8) (c:UInt8) (k:Nat) (a:Int):Prop:=(a= -1∧∀ j:Nat,j<k→l[j]? ≠some c)∨(∃ i:Nat,i<k∧a=i∧l[i]? =some c∧∀ j:Nat,j<k→l[j]? =some c→j=i)
theorem St.skip {l:List UInt8} {c:UInt8} {k:Nat} {a:Int} (h:St l c k a) (hn:l[k]? ≠some c):St l c (k+1) a:=by
 rcases h with ⟨h1,h2⟩|⟨i,h1,h2,h3,h4⟩
 ·refine .inl ⟨h1,fun j hj=> ?_⟩;rcases (by omega:j<k∨j=k) with hj|rfl
  ·exact h2 j hj
  ·exact hn
 ·refine .inr ⟨i,by omega,h2,h3,fun j hj hjc=> ?_⟩;rcases (by omega:j<k∨j=k) with hj|rfl
  ·exact h4 j hj hjc
  ·exact absurd hjc hn
theorem St.fin {l:List UInt8} {c:UInt8} {a:Int} (h:St l c l.length a):FindIs l c a:=by
 have lt:∀ j:Nat,l[j]? =some c→j<l.length:=fun j hj=>(List.getElem?_eq_some_iff.1 hj).1;rcases h with ⟨h1,h2⟩|⟨i,h1,h2,h3,h4⟩
 ·exact .inl ⟨h1,fun j hj=>h2 j (lt j hj) hj⟩
 ·exact .inr (.inr ⟨i,h2,h3,fun j hj=>h4 j (lt j hj) hj⟩)
set_option maxHeartbeats 1600000 in
theorem find (s:ByteArray) (hs:s.size≤9223372036854775807) (c:UInt8) (w:World):Calls prog 124 #[.string s,.int .u8 (c.toNat:Int)] w fun e w'=>(∃ r,e=.returned (.int .i64 r)∧FindIs s.data.toList c r)∧w=w':=by
 go_enter func124,ntmps124;go_wp2
 go_loop [5,6] (fun a i=>∃ (k:Nat) (x:Int),k≤s.size∧i=.int .i64 k∧a=.int .i64 x∧St s.data.toList c k x) (fun _ i=>s.size-(intOf i).toNat)
 case atStart=>exact ⟨0, -1,Nat.zero_le _,rfl,rfl,.inl ⟨rfl,fun j hj=>absurd hj (Nat.not_lt_zero _)⟩⟩
 case round=>
  obtain ⟨k,x,hk,rfl,rfl,hst⟩:=hrel;have Hst:=kj hst;clear hst
  by_cases hlt:k<s.size
  ·have hc:=RRule.byte_at hlt;have Hc:=kj hc;clear hc
   by_cases he:s[k]=c
   ·rcases Hst.out with ⟨h1,h2⟩|⟨i,h1,h2,h3,h4⟩
    ·subst h1;have H2:=kj h2;have Hcc:=kj (show s.data.toList[k]? =some c by rw [Hc.out,he]);clear h2;have hee:(s[k].toNat:Int)=c.toNat:=by rw [he]
     clear he;go_wp2;go_round
     case rel=>exact ⟨k+1,k,by omega,by go_num,rfl,.inr ⟨k,by omega,rfl,Hcc.out,fun j hj hjc=>by rcases (by omega:j<k∨j=k) with hj|rfl;exact absurd hjc (H2.out j hj);rfl⟩⟩
     case measure=>simp [intOf];omega
    ·subst h2;have H3:=kj h3;have Hcc:=kj (show s.data.toList[k]? =some c by rw [Hc.out,he]);have hee:(s[k].toNat:Int)=c.toNat:=by rw [he]
     clear he h3 h4;go_wp2;go_ret;exact ⟨⟨_,rfl,.inr (.inl ⟨rfl,i,k,h1,H3.out,Hcc.out⟩)⟩,rfl⟩
   ·have hne:¬(s[k].toNat:Int)=c.toNat:=fun h=>he (UInt8.toNat_inj.1 (by omega));have Hnc:=kj (show s.data.toList[k]? ≠some c by rw [Hc.out];simpa using he);clear he;go_wp2;go_round
    case rel=>exact ⟨k+1,x,by omega,by go_num,rfl,Hst.out.skip Hnc.out⟩
    case measure=>simp [intOf];omega
  ·have hkn:k=s.size:=by omega
   go_wp2;go_ret;refine ⟨⟨_,rfl,?_⟩,rfl⟩;have:=Hst.out;rw [hkn] at this;exact St.fin (by simpa using this)
theorem allow_succ {l:List UInt8} {k:Nat} {c:UInt8} (h:allow (l.take k)=true) (hc:l[k]? =some c) (h2:wset.contains c=true∨c=37∨c=47):allow (l.take (k+1))=true:=by
 unfold allow at *;rw [List.take_add_one,hc,List.all_append,h];rcases h2 with h2|rfl|rfl<;>simp
 left;left
 simpa using h2
theorem allow_not {l:List UInt8} {k:Nat} {c:UInt8} (hc:l[k]? =some c) (h1:wset.contains c=false) (h2:c≠37) (h3:c≠47):allow l=false:=by
 unfold allow;rw [Bool.eq_false_iff];intro h;rw [List.all_eq_true] at h;have:=h c (List.mem_of_getElem? hc);simp only [h1,Bool.false_or,Bool.or_eq_true,beq_iff_eq] at this;rcases this with h|h
 ·exact h2 h
 ·exact h3 h
theorem check_no {s:ByteArray} (h16:¬16<s.size) (ha:allow s.data.toList=false):checkE s=4:=by
 unfold checkE;rw [if_neg h16];have hf:∀ c,∃ r,FindIs s.data.toList c r:=by
  intro c;generalize s.data.toList=l
  induction l with
  |nil=>exact ⟨-1,.inl ⟨rfl,by simp⟩⟩
  |cons x xs ih=>
   obtain ⟨r,hr⟩:=ih
   by_cases hx:x=c
   ·rcases hr with ⟨_,h⟩|⟨_,i,j,h1,h2,h3⟩|⟨i,_,h2,_⟩
    ·refine ⟨0,.inr (.inr ⟨0,rfl,by simp [hx],fun j hj=> ?_⟩)⟩;cases j with
     |zero=>rfl
     |succ j=>exact absurd (by simpa using hj) (h j)
    ·exact ⟨-2,.inr (.inl ⟨rfl,i+1,j+1,by omega,by simpa using h2,by simpa using h3⟩)⟩
    ·exact ⟨-2,.inr (.inl ⟨rfl,0,i+1,by omega,by simp [hx],by simpa using h2⟩)⟩
   ·rcases hr with ⟨_,h⟩|⟨_,i,j,h1,h2,h3⟩|⟨i,_,h2,h3⟩
    ·refine ⟨-1,.inl ⟨rfl,fun j hj=> ?_⟩⟩;cases j with
     |zero=>simp at hj;exact hx hj
     |succ j=>exact h j (by simpa using hj)
    ·exact ⟨-2,.inr (.inl ⟨rfl,i+1,j+1,by omega,by simpa using h2,by simpa using h3⟩)⟩
    ·refine ⟨(i+1:Nat),.inr (.inr ⟨i+1,rfl,by simpa using h2,fun j hj=> ?_⟩)⟩;cases j with
     |zero=>simp at hj;exact absurd hj hx
     |succ j=>rw [h3 j (by simpa using hj)]
 obtain ⟨p,hp⟩:=hf 37;obtain ⟨q,hq⟩:=hf 47;have:=kind_law s hp hq
 by_cases h:(cutF s).1=0
 ·rw [if_pos h]
 ·have:=(this.1 h).1;rw [ha] at this;cases this
theorem check_ok {s:ByteArray} (h16:¬16<s.size) (ha:allow s.data.toList=true) {p q:Int} (hp:FindIs s.data.toList 37 p) (hq:FindIs s.data.toList 47 q):checkE s=if okR s.data.toList p q=true then 0 else 4:=by
 unfold checkE;rw [if_neg h16];have:=kind_law s hp hq
 by_cases h:okR s.data.toList p q=true
 ·rw [if_pos h,if_neg (this.2 ⟨ha,h⟩)]
 ·rw [if_neg h]
  by_cases h':(cutF s).1=0
  ·rw [if_pos h']
  ·exact absurd (this.1 h').2 h
set_option maxHeartbeats 3200000 in
theorem Check (s:ByteArray) (hs:s.size≤9223372036854775807) (w:World):Calls prog 122 #[.string s] w fun e w'=>e=.returned (.int .i64 (checkE s))∧w=w':=by
 by_cases h16:16<s.size
 ·rw [show checkE s=9 by unfold checkE;rw [if_pos h16]];go_enter func122,ntmps122;go_wp2;go_ret;exact ⟨rfl,rfl⟩
 have cp:=fun W=>find s hs 37 W;have cq:=fun W=>find s hs 47 W;rw [show ((37:UInt8).toNat:Int)=37 from rfl] at cp;rw [show ((47:UInt8).toNat:Int)=47 from rfl] at cq;have Cp:=kj cp;have Cq:=kj cq;clear cp cq;go_enter func122,ntmps122;go_wp2
 go_loop [4] (fun i=>∃ k:Nat,k≤s.size∧i=.int .i64 k∧allow (s.data.toList.take k)=true) (fun i=>s.size-(intOf i).toNat)
 case atStart=>exact ⟨0,Nat.zero_le _,rfl,rfl⟩
 case round=>
  obtain ⟨k,hk,rfl,hal⟩:=hrel
  by_cases hlt:k<s.size
  ·have hc:=RRule.byte_at hlt;have cl:=fun W=>RRule.letter s[k] W;have hsucc:=fun h2=>allow_succ hal hc h2;have hfail:=fun h1 h2 h3=>allow_not hc h1 h2 h3;have Hsucc:=kj hsucc;have Hfail:=kj hfail;clear hsucc hfail hal hc;have hx37:(s[k].toNat:Int)=37↔s[k]=37:=⟨fun h=>UInt8.toNat_inj.1 (by show s[k].toNat=37;omega),fun h=>by rw [h];rfl⟩;have hx47:(s[k].toNat:Int)=47↔s[k]=47:=⟨fun h=>UInt8.toNat_inj.1 (by show s[k].toNat=47;omega),fun h=>by rw [h];rfl⟩;cases hL:wset.contains s[k]
   ·rw [hL] at cl
    by_cases h37:s[k]=37
    ·have hs2:=kj (Hsucc.out (.inr (.inl h37)));have e37:=hx37.2 h37;rw [e37] at cl;have Cl:=kj cl;clear cl;clear hx37 hx47 h37 hL
     go_wp2_with (go_at_call 184;(with_reducible refine (Cl.out _).mono ?_);rintro e w' ⟨rfl,rfl⟩)
     go_round
     case rel=>exact ⟨k+1,by omega,by go_num,hs2.out⟩
     case measure=>simp [intOf];omega
    ·by_cases h47:s[k]=47
     ·have hs2:=kj (Hsucc.out (.inr (.inr h47)));have e47:=hx47.2 h47;rw [e47] at cl;have Cl:=kj cl;clear cl;clear hx37 hx47 h37 hL h47
      go_wp2_with (go_at_call 184;(with_reducible refine (Cl.out _).mono ?_);rintro e w' ⟨rfl,rfl⟩)
      go_round
      case rel=>exact ⟨k+1,by omega,by go_num,hs2.out⟩
      case measure=>simp [intOf];omega
     ·have e47:¬(s[k].toNat:Int)=47:=fun h=>h47 (hx47.1 h);have e37:¬(s[k].toNat:Int)=37:=fun h=>h37 (hx37.1 h);have Cl:=kj cl;clear cl;have hr:=kj (check_no h16 (Hfail.out hL h37 h47));have f37:((s[k].toNat:Int) != 37)=true:=by simpa using e37
      have f47:((s[k].toNat:Int) != 47)=true:=by simpa using e47
      clear hx37 hx47 h37 hL h47 e37 e47
      go_wp2_with (go_at_call 184;(with_reducible refine (Cl.out _).mono ?_);rintro e w' ⟨rfl,rfl⟩)
      go_ret;exact ⟨congrArg (fun v=>Ending.returned (Value.int .i64 v)) hr.out.symm,rfl⟩
   ·rw [hL] at cl;have Cl:=kj cl;have hs2:=kj (Hsucc.out (.inl hL));clear cl hx37 hx47 hL
    go_wp2_with (go_at_call 184;(with_reducible refine (Cl.out _).mono ?_);rintro e w' ⟨rfl,rfl⟩)
    go_round
    case rel=>exact ⟨k+1,by omega,by go_num,hs2.out⟩
    case measure=>simp [intOf];omega
  ·have hkn:k=s.size:=by omega
   rw [hkn,List.take_of_length_le (by simp)] at hal;have hck:=fun p q hp hq=>check_ok h16 hal (p:=p) (q:=q) hp hq;have Hck:=kj hck;obtain ⟨z,hz⟩:∃ z:Bool,z=decide (s.toList=[37,122]):=⟨_,rfl⟩;have ez:(s.toList==[37,122])=z:=by rw [hz];cases h:decide (s.toList=[37,122])<;>simp at h ⊢ <;>exact h
   have ez2:decide (s.data.toList=[37,122])=z:=by rw [hz,ByteArray.toList_eq]
   have Ez2:=kj ez2;clear hck hal hz ez2
   go_upto_region 10 with (first
    |(go_at_call 124;(with_reducible refine (Cp.out _).mono ?_);rintro e w' ⟨⟨p,rfl,hp⟩,rfl⟩)
    |(go_at_call 124;(with_reducible refine (Cq.out _).mono ?_);rintro e w' ⟨⟨q,rfl,hq⟩,rfl⟩))
   have hres:=Hck.out p q hp hq;unfold okR at hres;rw [Ez2.out] at hres;have hlen:s.data.toList.length=s.size:=by simp
   rw [hlen] at hres;have Hres:=kj hres;have HP:=kj hp;have HQ:=kj hq;have hpc:p= -1∨p= -2∨∃ i:Nat,p=i∧i<s.size:=by
    rcases hp with ⟨h,_⟩|⟨h,_⟩|⟨i,h,h1,_⟩
    ·exact .inl h
    ·exact .inr (.inl h)
    ·exact .inr (.inr ⟨i,h,by have:=(List.getElem?_eq_some_iff.1 h1).1;simpa using this⟩)
   have hqc:q= -1∨q= -2∨∃ i:Nat,q=i∧i<s.size:=by
    rcases hq with ⟨h,_⟩|⟨h,_⟩|⟨i,h,h1,_⟩
    ·exact .inl h
    ·exact .inr (.inl h)
    ·exact .inr (.inr ⟨i,h,by have:=(List.getElem?_eq_some_iff.1 h1).1;simpa using this⟩)
   clear hres hp hq HP HQ;have hbad:∀ v:Int,(checkE s=v)→Hid (checkE s=v):=fun _ h=>kj h;rcases hpc with rfl|rfl|⟨i,rfl,hi⟩
   ·rcases hqc with rfl|rfl|⟨j,rfl,hj⟩
    ·by_cases hsz:0<s.size
     ·have hr:=hbad 0 (by rw [Hres.out,if_pos (by simp [hsz])]);clear Hres Hck Ez2;go_wp2
      all_goals go_ret
      all_goals exact ⟨congrArg (fun v=>Ending.returned (Value.int .i64 v)) hr.out.symm,rfl⟩
     ·have hsz0:s.size=0:=by omega
      cases z
      ·have hr:=hbad 4 (by rw [Hres.out,if_neg (by simp [hsz0])]);clear Hres Hck Ez2;go_wp2
       all_goals go_ret
       all_goals exact ⟨congrArg (fun v=>Ending.returned (Value.int .i64 v)) hr.out.symm,rfl⟩
      ·have hr:=hbad 0 (by rw [Hres.out,if_pos (by simp)]);clear Hres Hck Ez2;go_wp2
       all_goals go_ret
       all_goals exact ⟨congrArg (fun v=>Ending.returned (Value.int .i64 v)) hr.out.symm,rfl⟩
    ·cases z
     ·have hr:=hbad 4 (by rw [Hres.out,if_neg (by simp)]);clear Hres Hck Ez2;go_wp2
      all_goals go_ret
      all_goals exact ⟨congrArg (fun v=>Ending.returned (Value.int .i64 v)) hr.out.symm,rfl⟩
     ·have hr:=hbad 0 (by rw [Hres.out,if_pos (by simp)]);clear Hres Hck Ez2;go_wp2
      all_goals go_ret
      all_goals exact ⟨congrArg (fun v=>Ending.returned (Value.int .i64 v)) hr.out.symm,rfl⟩
    ·by_cases hd:0<j∧j+1<s.size
     ·have hr:=hbad 0 (by rw [Hres.out,if_pos (by simp;left;omega)]);have hd1:(0:Int)<j:=by omega
      have hd2:(j:Int)<s.size-1:=by omega
      clear Hres Hck Ez2;go_wp2
      all_goals go_ret
      all_goals exact ⟨congrArg (fun v=>Ending.returned (Value.int .i64 v)) hr.out.symm,rfl⟩
     ·rcases (by omega:j=0∨s.size≤j+1) with hd|hd
      ·subst hd;cases z
       ·have hr:=hbad 4 (by rw [Hres.out,if_neg (by simp)]);clear Hres Hck Ez2;go_wp2
        all_goals go_ret
        all_goals exact ⟨congrArg (fun v=>Ending.returned (Value.int .i64 v)) hr.out.symm,rfl⟩
       ·have hr:=hbad 0 (by rw [Hres.out,if_pos (by simp)]);clear Hres Hck Ez2;go_wp2
        all_goals go_ret
        all_goals exact ⟨congrArg (fun v=>Ending.returned (Value.int .i64 v)) hr.out.symm,rfl⟩
      ·have hd2:¬(j:Int)<s.size-1:=by omega
       cases z
       ·have hr:=hbad 4 (by rw [Hres.out,if_neg (by simp;omega)]);clear Hres Hck Ez2;go_wp2
        all_goals go_ret
        all_goals exact ⟨congrArg (fun v=>Ending.returned (Value.int .i64 v)) hr.out.symm,rfl⟩
       ·have hr:=hbad 0 (by rw [Hres.out,if_pos (by simp)]);clear Hres Hck Ez2;go_wp2
        all_goals go_ret
        all_goals exact ⟨congrArg (fun v=>Ending.returned (Value.int .i64 v)) hr.out.symm,rfl⟩
   ·rcases hqc with rfl|rfl|⟨j,rfl,hj⟩
    all_goals
     cases z
     ·have hr:=hbad 4 (by rw [Hres.out,if_neg (by simp)]);clear Hres Hck Ez2;go_wp2
      all_goals go_ret
      all_goals exact ⟨congrArg (fun v=>Ending.returned (Value.int .i64 v)) hr.out.symm,rfl⟩
     ·have hr:=hbad 0 (by rw [Hres.out,if_pos (by simp)]);clear Hres Hck Ez2;go_wp2
      all_goals go_ret
      all_goals exact ⟨congrArg (fun v=>Ending.returned (Value.int .i64 v)) hr.out.symm,rfl⟩
   ·rcases hqc with rfl|rfl|⟨j,rfl,hj⟩
    ·by_cases hd:i+1<s.size
     ·have hx:=RRule.byte_at hd
      by_cases hx5:s[i+1]=115
      ·have hr:=hbad 0 (by rw [Hres.out,if_pos (by rw [Int.toNat_natCast,hx,hx5];simp;left;omega)]);have e115:(s[i+1].toNat:Int)=115:=by rw [hx5];rfl
       clear hx hx5;clear Hres Hck Ez2;go_wp2
       all_goals go_ret
       all_goals exact ⟨congrArg (fun v=>Ending.returned (Value.int .i64 v)) hr.out.symm,rfl⟩
      ·have e115:¬(s[i+1].toNat:Int)=115:=fun h=>hx5 (UInt8.toNat_inj.1 (by show s[i+1].toNat=115;omega));cases z
       ·have hr:=hbad 4 (by rw [Hres.out,if_neg (by rw [Int.toNat_natCast,hx];simp [hx5])]);clear hx hx5;clear Hres Hck Ez2;go_wp2
        all_goals go_ret
        all_goals exact ⟨congrArg (fun v=>Ending.returned (Value.int .i64 v)) hr.out.symm,rfl⟩
       ·have hr:=hbad 0 (by rw [Hres.out,if_pos (by simp)]);clear hx hx5;clear Hres Hck Ez2;go_wp2
        all_goals go_ret
        all_goals exact ⟨congrArg (fun v=>Ending.returned (Value.int .i64 v)) hr.out.symm,rfl⟩
     ·cases z
      ·have hr:=hbad 4 (by rw [Hres.out,if_neg (by simp;intro h;omega)]);clear Hres Hck Ez2;go_wp2
       all_goals go_ret
       all_goals exact ⟨congrArg (fun v=>Ending.returned (Value.int .i64 v)) hr.out.symm,rfl⟩
      ·have hr:=hbad 0 (by rw [Hres.out,if_pos (by simp)]);clear Hres Hck Ez2;go_wp2
       all_goals go_ret
       all_goals exact ⟨congrArg (fun v=>Ending.returned (Value.int .i64 v)) hr.out.symm,rfl⟩
    all_goals
     cases z
     ·have hr:=hbad 4 (by rw [Hres.out,if_neg (by simp)]);clear Hres Hck Ez2;go_wp2
      all_goals go_ret
      all_goals exact ⟨congrArg (fun v=>Ending.returned (Value.int .i64 v)) hr.out.symm,rfl⟩
     ·have hr:=hbad 0 (by rw [Hres.out,if_pos (by simp)]);clear Hres Hck Ez2;go_wp2
      all_goals go_ret
      all_goals exact ⟨congrArg (fun v=>Ending.returned (Value.int .i64 v)) hr.out.symm,rfl⟩
end RFmt
end
section
open Go.RowKit NB Er
namespace REr
set_option maxHeartbeats 1600000 in
theorem End (u:UntilV) (w:World):Calls prog 174 #[.agg u.cells.toArray] w fun e w'=>e=.returned (.bool (endB u))∧Below w.heap.size w w':=by
 have cf:=fun W=>RDay.Fits u.kind u.week u.day u.month W;have cc:=fun W=>RRule.ClockRight u.sec u.base W;unfold endB UntilV.cells;cases hh:u.has
 ·rw [if_neg (by decide)];clear cf cc hh;unfold noneB;go_enter func174,ntmps174;go_wp2
  all_goals
   go_ret;exact ⟨ret_bool (by simp [*]),bcq⟩
 ·rw [if_pos rfl];unfold yearB;generalize Day.fits u.kind u.week u.day u.month=g2 at *;generalize Rul.clockRight u.sec u.base=g3 at *;have Cf:=kj cf;have Cc:=kj cc;clear cf cc hh;go_enter func174,ntmps174
  go_wp2_with (first
   |(go_at_call 236;(with_reducible refine (Cf.out _).mono ?_);rintro e w1 ⟨rfl,hb1⟩;obtain ⟨_,_,_⟩:=bcs hb1 (w.heap.size))
   |(go_at_call 237;(with_reducible refine (Cc.out _).mono ?_);rintro e w2 ⟨rfl,hb2⟩;obtain ⟨_,_,_⟩:=bcs hb2 (w.heap.size)))
  all_goals
   go_ret;exact ⟨ret_bool (by simp [*];try (intros;omega)),bcq⟩
set_option maxRecDepth 100000 in
set_option maxHeartbeats 6400000 in
theorem Right (e:EraV) (he:e.Fit) (w:World):Calls prog 114 #[.agg e.cells.toArray] w fun x w'=>x=.returned (.bool (rightB e))∧Below w.heap.size w w':=by
 have c3:=fun W=>RFmt.Check e.format he.f W;have c4:=fun W=>End e.u W;have c5:=fun W=>RRule.Name e.rules he.r W;obtain ⟨off,kind,save,rules,format,u⟩:=e;simp only at c3 c4 c5;have hoff:I64 off:=he.off;have hsave:I64 save:=he.save;unfold rightB EraV.cells;unfold UntilV.cells at c4;simp only;generalize Fmt.checkE format=k1 at *;generalize endB u=g3 at *;generalize Nam.nameE rules=k2 at *;obtain ⟨ne,hne⟩:∃ x,x=rules.toList.isEmpty:=⟨_,rfl⟩;rw [← hne];have es:rules.toList.isEmpty=ne:=hne.symm;obtain ⟨g1,hg1⟩:∃ x,x=(decide (-54000≤off)&&decide (off≤54000)):=⟨_,rfl⟩;obtain ⟨g2,hg2⟩:∃ x,x=(decide (-10800≤save)&&decide (save≤10800)):=⟨_,rfl⟩;rw [← hg1, ←hg2];obtain ⟨pe,hpe⟩:∃ x:Bool,x=(if g1=true∧k1=0∧g3=true then (if kind=0 then decide (save=0)&&ne else if kind=1 then g2&&ne else if kind=2 then decide (save=0)&&decide (k2=0) else false) else false):=⟨_,rfl⟩;rw [← hpe];have Hpe:=kj hpe;have C3:=kj c3;have C4:=kj c4;have C5:=kj c5;clear hpe c3 c4 c5 hne he;have hk:kind=0∨kind=1∨kind=2∨(¬ kind=0∧¬kind=1∧¬kind=2):=by omega
 have ho:off < -54000∨54000<off∨(-54000≤off∧off≤54000):=by omega
 have hs:save < -10800∨10800<save∨(-10800≤save∧save≤10800):=by omega
 rcases hk with rfl|rfl|rfl|⟨k0,k1',k2'⟩<;>rcases ho with ho|ho|ho<;>rcases hs with hs|hs|hs
 all_goals
  first
   |have eg1:g1=true:=by rw [hg1];simp;omega
   |have eg1:g1=false:=by rw [hg1];simp;omega
  first
   |have eg2:g2=true:=by rw [hg2];simp;omega
   |have eg2:g2=false:=by rw [hg2];simp;omega
  clear hg1 hg2;go_enter func114,ntmps114
  go_wp2_with (first
   |(go_at_call 122;(with_reducible refine (C3.out _).mono ?_);rintro e w' ⟨rfl,rfl⟩)
   |(go_at_call 174;(with_reducible refine (C4.out _).mono ?_);rintro e w2 ⟨rfl,hb2⟩;obtain ⟨_,_,_⟩:=bcs hb2 (w.heap.size))
   |(go_at_call 175;(with_reducible refine (C5.out _).mono ?_);rintro e w' ⟨rfl,rfl⟩))
 all_goals
  go_ret;have hpe:=Hpe.out;simp only [*,if_true,if_false,true_and,false_and,and_false,Bool.false_eq_true,Int.reduceEq,eq_self,decide_true,decide_false,Bool.true_and,Bool.false_and] at hpe;refine ⟨ret_bool ?_,bcq⟩
  first
   |(rw [hpe];done)
   |(rw [hpe];first
    |rfl
    |(simp [*];done)
    |(rw [Bool.eq_iff_iff];simp [*];done)
    |(rw [Bool.eq_iff_iff];simp [*];omega)
    |(cases g3
      ·first
       |(exfalso;rename_i hx;exact absurd hx.2 (by decide))
       |rfl
       |(simp [*];done)
      ·first
       |rfl
       |(simp [*];done)
       |(exfalso;simp only [Bool.not_true,Bool.false_eq_true,or_false] at *;omega)))
end REr
end
section
open Go.RowKit NB
namespace RCiv
theorem Ahead' (y a:Int) (h:Cal.ahead y=a) (h0: -50000≤y) (h1:y≤50000) (w:World):Calls prog 74 #[.int .i64 y] w fun e w'=>e=.returned (.int .i64 a)∧w=w':=h ▸ Ahead y h0 h1 w
theorem left_eq (n:Int):n-Cal.ahead (Yr.dY n)=Cal.cum (Yr.dY n) (Yr.dM n)+Yr.dD n-1:=by
 have:=Yr.days_of n;unfold Cal.days at this;omega
set_option maxHeartbeats 6400000 in
theorem Date (n:Int) (h0: -9000000000000000000≤n) (h1:n≤9000000000000000000) (w:World):Calls prog 127 #[.int .i64 n] w fun e w'=>
 e=.returned (if okN n then .tuple #[.agg #[.int .i64 (Yr.dY n),.int .i64 (Yr.dM n),.int .i64 (Yr.dD n)],.int .i64 0] else .tuple #[.agg #[.int .i64 0,.int .i64 0,.int .i64 0],.int .i64 1])∧Below w.heap.size w w':=by
 have c1:=Ahead' (-40000) _ ahead_lo (by omega) (by omega);have c2:=Ahead' 40001 _ ahead_hi (by omega) (by omega);unfold okN;rw [ahead_lo,ahead_hi];have C1:=kj c1;have C2:=kj c2;clear c1 c2
 by_cases g0:n < -15329228
 ·rw [decide_eq_false (by omega:¬ -15329228≤n)];simp only [Bool.false_and,Bool.false_eq_true,if_false];go_enter func127,ntmps127
  go_wp2_with (first|(go_at_call 74;(with_reducible refine (C1.out _).mono ?_);rintro e w' ⟨rfl,rfl⟩)|(go_at_call 74;(with_reducible refine (C2.out _).mono ?_);rintro e w' ⟨rfl,rfl⟩))
  refine bodyPost_ret (v:=.tuple #[.agg #[.int .i64 0,.int .i64 0,.int .i64 0],.int .i64 1]) ?_ rfl ⟨rfl,?_⟩
  ·simp only [results,results127];go_simp
  ·exact bcq
 rw [decide_eq_true (by omega: -15329228≤n)]
 by_cases g1:13890538≤n
 ·rw [decide_eq_false (by omega:¬n<13890538)];simp only [Bool.and_false,Bool.false_eq_true,if_false];go_enter func127,ntmps127
  go_wp2_with (first|(go_at_call 74;(with_reducible refine (C1.out _).mono ?_);rintro e w' ⟨rfl,rfl⟩)|(go_at_call 74;(with_reducible refine (C2.out _).mono ?_);rintro e w' ⟨rfl,rfl⟩))
  refine bodyPost_ret (v:=.tuple #[.agg #[.int .i64 0,.int .i64 0,.int .i64 0],.int .i64 1]) ?_ rfl ⟨rfl,?_⟩
  ·simp only [results,results127];go_simp
  ·exact bcq
 rw [decide_eq_true (by omega:n<13890538)];simp only [Bool.and_self,if_true];obtain ⟨s0,s1⟩:=start_le n (by omega) (by omega);obtain ⟨y0,y1⟩:=dY_bd n (by omega) (by omega);have hv:=Yr.valid n;have m1:=hv.m1;have m2:=hv.m2;have d1:=hv.d1;have d2:=hv.d2;have hai:=ahead_lt_iff n;have hle:=left_eq n;clear hv;generalize Yr.dY n=Y at *;generalize Yr.dM n=M at *;generalize Yr.dD n=D at *;have d3:D≤31:=by have:=Cal.len_le Y M;omega
 have cf:=RNum.Floor n 366 (by omega) (by omega) (by omega) (by omega);have ab:=Cal.ahead_bd Y (by omega) (by omega);have HA:=kj hai;have HL:=kj hle;have Cf:=kj cf;clear hai hle cf;go_enter func127,ntmps127
 go_wp2_with (first|(go_at_call 74;(with_reducible refine (C1.out _).mono ?_);rintro e w' ⟨rfl,rfl⟩)|(go_at_call 74;(with_reducible refine (C2.out _).mono ?_);rintro e w' ⟨rfl,rfl⟩)|(go_at_call 128;(with_reducible refine (Cf.out _).mono ?_);rintro e w' ⟨rfl,rfl⟩))
 go_loop [4] (fun s=>∃ k:Int,s=.int .i64 k∧ -42000≤k∧k≤40000) (fun s=>(intOf s+50000).toNat)
 case atStart=>exact ⟨_,rfl,s0,s1⟩
 case round=>
  obtain ⟨k,rfl,k0,k1⟩:=hrel;have ca:=Ahead k (by omega) (by omega);have hk:=HA.out k;generalize Cal.ahead k=a at *;have Ca:=kj ca;clear ca
  by_cases hgt:n<a
  ·have hYk:Y<k:=by omega
   clear hk
   go_wp2_with (go_at_call 74;(with_reducible refine (Ca.out _).mono ?_);rintro e w' ⟨rfl,rfl⟩)
   go_round
   case rel=>exact ⟨k-1,rfl,by omega,by omega⟩
   case measure=>simp [intOf];omega
  ·have hkY:k≤Y:=by omega
   clear hk
   go_wp2_with (go_at_call 74;(with_reducible refine (Ca.out _).mono ?_);rintro e w' ⟨rfl,rfl⟩)
   go_loop [4] (fun s=>∃ k:Int,s=.int .i64 k∧ -42000≤k∧k≤Y) (fun s=>(Y-intOf s).toNat)
   case atStart=>exact ⟨_,rfl,k0,hkY⟩
   case round=>
    obtain ⟨j,rfl,j0,j1⟩:=hrel;have cb:=Ahead (j+1) (by omega) (by omega);have hj:=HA.out (j+1);generalize Cal.ahead (j+1)=b at *;have Cb:=kj cb;clear cb
    by_cases hle:b≤n
    ·have hjY:j+1≤Y:=hj.1 hle;clear hj
     go_wp2_with (go_at_call 74;(with_reducible refine (Cb.out _).mono ?_);rintro e w' ⟨rfl,rfl⟩)
     go_round
     case rel=>exact ⟨j+1,rfl,by omega,by omega⟩
     case measure=>simp [intOf];omega
    ·have hjY:j=Y:=by omega
     clear hj;subst hjY;have cc:=Ahead j (by omega) (by omega);have hl0:=HL.out;have e1:=Cal.cum_bd j M m1 m2;have e2:=Cal.lp_01 j;have e3:=Cal.len_le j M;obtain ⟨g,hg⟩:∃ g,g=n-Cal.ahead j:=⟨_,rfl⟩;have hg2:g=Cal.cum j M+D-1:=by omega
     have g0:0≤g∧g≤400:=by omega
     have Hg2:=kj hg2;generalize Cal.ahead j=c at *;have Hg:=kj hg;have Cc:=kj cc;clear hg hg2 cc hl0 HL e1 e3
     go_wp2_with (first|(go_at_call 74;(with_reducible refine (Cb.out _).mono ?_);rintro e w' ⟨rfl,rfl⟩)|(go_at_call 74;(with_reducible refine (Cc.out _).mono ?_);rintro e w' ⟨rfl,rfl⟩))
     rw [← Hg.out]
     go_loopw [5,6] (fun l i wr=>∃ k:Int,l=.int .i64 (g-Cal.cum j k)∧i=.int .i64 k∧1≤k∧k≤M∧Below w.heap.size w wr∧Box wr w.heap.size #[.int .i64 0,.int .i64 0,.int .i64 0] 69) (fun _ i _=>(M-intOf i).toNat)
     case atStart=>exact ⟨1,by rw [cum_one,Int.sub_zero],rfl,by omega,m1,bcq,bxq⟩
     case round=>
      obtain ⟨i,rfl,rfl,i0,i1,hbel,hbx⟩:=hrel;have u0:=hbx.lt;have f0:=hbx.cell;have f1:=hbx.free;have cl:=Len j i
      by_cases hlt:i<M
      ·have hc1:=Cal.cum_succ j i i0 (by omega);have hc2:=Cal.cum_bd j i i0 (by omega);have hc3:=Cal.len_le j i;have hc4:=Yr.cum_mono (y:=j) i0 m2 hlt;have q0:Cal.len j i≤g-Cal.cum j i:=by have:=Hg2.out;omega
       have q1:0≤Cal.cum j i∧Cal.cum j i≤400:=by omega
       generalize Cal.len j i=ln at *;generalize hcc:Cal.cum j i=ci at *;have Hc1:=kj hc1;have Cl:=kj cl;clear hc1 hc2 hc4 cl hcc
       go_wp2_with (go_at_call 188;(with_reducible refine (Cl.out _).mono ?_);rintro e wn ⟨rfl,hbn⟩;replace hbel:=bt hbel (by first|exact hbn);replace hbx:=Box.later hbx hbn;have u0:=hbx.lt;have f0:=hbx.cell;have f1:=hbx.free;clear hbn)
       go_roundw
       case rel=>exact ⟨i+1,by rw [Hc1.out];go_num,rfl,by omega,by omega,bcq,bxq⟩
       case measure=>simp [intOf];omega
      ·obtain rfl:i=M:=by omega
       have hgc:g-Cal.cum j i=D-1:=by have:=Hg2.out;omega
       rw [hgc];clear hgc hlt;generalize Cal.len j i=ln at *;have Cl:=kj cl;clear cl
       go_wp2_with (go_at_call 188;(with_reducible refine (Cl.out _).mono ?_);rintro e w2 ⟨rfl,hb2⟩;obtain ⟨_,_,_⟩:=bcs hb2 (w.heap.size))
       refine bodyPost_ret (v:=.tuple #[.agg #[.int .i64 j,.int .i64 i,.int .i64 D],.int .i64 0]) ?_ rfl ⟨rfl,?_⟩
       ·simp only [results,results127];go_simp
       ·exact bcq
end RCiv
end
section
open Go.RowKit NB
namespace ROcc
theorem floorLeast (w:World):Calls prog 189 #[.int .i64 (-9223372036854775808),.int .i64 86400] w fun e w'=>e=.returned (.tuple #[.int .i64 (-106751991167301),.int .i64 30592,.int .i64 0])∧w=w':=by
 go_enter func189,ntmps189;go_wp2
 go_ret3
 exact ⟨rfl,rfl⟩
theorem Floor (t:Int) (ht:I64 t) (w:World):Calls prog 128 #[.int .i64 t,.int .i64 86400] w fun e w'=>e=.returned (.int .i64 (t/86400))∧w=w':=by
 by_cases h: -9223372036854775808<t
 ·exact RNum.Floor t 86400 h ht.2 (by omega) (by omega) w
 ·have h0:=ht.1;obtain rfl:t= -9223372036854775808:=by omega
  rw [show (-9223372036854775808:Int)/86400= -106751991167301 by decide];have cd:=floorLeast;have Cd:=kj cd;clear cd h h0 ht;go_enter func128,ntmps128
  go_wp2_with (go_at_call 189;(with_reducible refine (Cd.out _).mono ?_);rintro e w' ⟨rfl,rfl⟩)
  go_ret;exact ⟨rfl,rfl⟩
set_option maxHeartbeats 1600000 in
theorem near (t:Int) (ht:I64 t) (w:World):Calls prog 284 #[.int .i64 t] w fun e w'=>e=.returned (.int .i64 (Occ.nearA t))∧Below w.heap.size w w':=by
 obtain ⟨t0,t1⟩:=ht;have cf:=Floor t ⟨t0,t1⟩;have cd:=RCiv.Date (t/86400) (by omega) (by omega);obtain ⟨Y,hY⟩:∃ Y,Y=Occ.nearA t:=⟨_,rfl⟩;rw [← hY];unfold Occ.nearA at hY;cases hk:RCiv.okN (t/86400)
 ·have hn:¬(Cal.ahead (-40000)≤t/86400∧t/86400<Cal.ahead 40001):=by
   intro h;unfold RCiv.okN at hk;rw [decide_eq_true h.1,decide_eq_true h.2] at hk;cases hk
  rw [if_neg hn] at hY;rw [hk,if_neg (by decide)] at cd;have Cf:=kj cf;have Cd:=kj cd;clear cf cd hk hn
  by_cases h0:t<0
  ·rw [if_pos h0] at hY;subst hY;go_enter func284,ntmps284
   go_wp2_with (first|(go_at_call 128;(with_reducible refine (Cf.out _).mono ?_);rintro e w' ⟨rfl,rfl⟩)|(go_at_call 127;(with_reducible refine (Cd.out _).mono ?_);rintro e w1 ⟨rfl,hb1⟩;obtain ⟨hc1,hf1⟩:=bcell hb1))
   go_ret;exact ⟨rfl,bcq⟩
  ·rw [if_neg h0] at hY;subst hY;go_enter func284,ntmps284
   go_wp2_with (first|(go_at_call 128;(with_reducible refine (Cf.out _).mono ?_);rintro e w' ⟨rfl,rfl⟩)|(go_at_call 127;(with_reducible refine (Cd.out _).mono ?_);rintro e w1 ⟨rfl,hb1⟩;obtain ⟨hc1,hf1⟩:=bcell hb1))
   go_ret;exact ⟨rfl,bcq⟩
 ·have hn:Cal.ahead (-40000)≤t/86400∧t/86400<Cal.ahead 40001:=by
   unfold RCiv.okN at hk
   simpa using hk
  rw [if_pos hn] at hY;rw [hk,if_pos rfl, ←hY] at cd;have Cf:=kj cf;have Cd:=kj cd;clear cf cd hk hn hY;go_enter func284,ntmps284
  go_wp2_with (first|(go_at_call 128;(with_reducible refine (Cf.out _).mono ?_);rintro e w' ⟨rfl,rfl⟩)|(go_at_call 127;(with_reducible refine (Cd.out _).mono ?_);rintro e w1 ⟨rfl,hb1⟩;obtain ⟨hc1,hf1⟩:=bcell hb1))
  go_ret;exact ⟨rfl,bcq⟩
set_option maxHeartbeats 1600000 in
theorem Nom (r:RuleV) (hr:r.Fit) (y:Int) (w:World):
 Calls prog 285 #[.agg r.cells.toArray,.int .i64 y] w fun e w'=>e=.returned (.tuple #[.int .i64 (Nom.nomE r y).1,.int .i64 (Nom.nomE r y).2])∧Below w.heap.size w w':=by
 have cr:=RRule.Right r hr;unfold Nom.nomE;cases hR:Rul.right r
 ·rw [hR] at cr;simp only [Bool.false_eq_true,if_false];unfold RuleV.cells at *;have Cr:=kj cr;clear cr hR;go_enter func285,ntmps285
  go_wp2_with (go_at_call 194;(with_reducible refine (Cr.out _).mono ?_);rintro e w1 ⟨rfl,hb1⟩;obtain ⟨hc1_0,hf1_0,hz1_0⟩:=bcs hb1 (w.heap.size))
  go_ret2;exact ⟨rfl,bcq⟩
 ·rw [hR] at cr;simp only [if_true];have hy:=(Rul.right_spec hR).1
  by_cases hc1:y<r.fr
  ·rw [if_pos (.inl hc1)];unfold RuleV.cells at *;have Cr:=kj cr;clear cr hR;go_enter func285,ntmps285
   go_wp2_with (go_at_call 194;(with_reducible refine (Cr.out _).mono ?_);rintro e w1 ⟨rfl,hb1⟩;obtain ⟨hc1_0,hf1_0,hz1_0⟩:=bcs hb1 (w.heap.size))
   go_ret2;exact ⟨rfl,bcq⟩
  ·by_cases hc2:r.to<y
   ·rw [if_pos (.inr hc2)];unfold RuleV.cells at *;have Cr:=kj cr;clear cr hR;go_enter func285,ntmps285
    go_wp2_with (go_at_call 194;(with_reducible refine (Cr.out _).mono ?_);rintro e w1 ⟨rfl,hb1⟩;obtain ⟨hc1_0,hf1_0,hz1_0⟩:=bcs hb1 (w.heap.size))
    go_ret2;exact ⟨rfl,bcq⟩
   ·rw [if_neg (by omega)];have hf:=(Rul.right_spec hR).2.1;obtain ⟨s0,s1⟩:=(Rul.right_spec hR).2.2.1.2.2;obtain ⟨d0,d1⟩:=Nom.day_bd hf (y:=y) (by omega) (by omega);have cd:=fun W=>RDay.Days r.kind r.week r.day y r.month W;rw [hf,if_pos rfl,if_pos ⟨by omega,by omega⟩] at cd;unfold Occ.nomR;generalize Day.dayI r.kind r.week r.day y r.month=d at *;unfold RuleV.cells at *;have Cr:=kj cr;have Cd:=kj cd;clear cr cd hR hf;go_enter func285,ntmps285
    go_wp2_with (first|(go_at_call 194;(with_reducible refine (Cr.out _).mono ?_);rintro e w1 ⟨rfl,hb1⟩;obtain ⟨hc1_0,hf1_0,hz1_0⟩:=bcs hb1 (w.heap.size))|(go_at_call 243;(with_reducible refine (Cd.out _).mono ?_);rintro e w2 ⟨rfl,hb2⟩;obtain ⟨_,_,_⟩:=bcs hb2 (w.heap.size)))
    go_ret2;exact ⟨rfl,bcq⟩
set_option maxHeartbeats 800000 in
theorem Less (a b:OccV) (w:World):Calls prog 239 #[.agg a.cells.toArray,.agg b.cells.toArray] w fun e w'=>e=.returned (.bool (Occ.less a b))∧Below w.heap.size w w':=by
 obtain ⟨x,hx⟩:∃ x,x=Occ.less a b:=⟨_,rfl⟩;rw [← hx];unfold Occ.less at hx;unfold OccV.cells;rcases Int.lt_trichotomy a.nom b.nom with h|h|h
 ·have e1:decide (a.nom<b.nom)=true:=by simpa using h
  rw [e1,Bool.true_or] at hx;subst hx;go_enter func239,ntmps239;go_wp2
  try (go_quiet (fail);go_wp2)
  go_ret;exact ⟨rfl,bcq⟩
 ·have e1:decide (a.nom<b.nom)=false:=by simp;omega
  have e2:(a.nom==b.nom)=true:=by simpa using h
  have e3:decide (a.nom=b.nom)=true:=by simpa using h
  rw [e1,e3,Bool.false_or,Bool.true_and] at hx;subst hx;have H:=kj h;clear h;go_enter func239,ntmps239;go_wp2
  try (go_quiet (fail);go_wp2)
  go_ret;exact ⟨rfl,bcq⟩
 ·have e1:decide (a.nom<b.nom)=false:=by simp;omega
  have e2:(a.nom==b.nom)=false:=by simp;omega
  have e3:decide (a.nom=b.nom)=false:=by simp;omega
  rw [e1,e3,Bool.false_or,Bool.false_and] at hx;subst hx;go_enter func239,ntmps239;go_wp2
  try (go_quiet (fail);go_wp2)
  go_ret;exact ⟨rfl,bcq⟩
end ROcc
end
section
namespace Grp
open Go.RowKit Go.ChangeMaps Go.MapKept Go.ChangeShapes
open Go.WideElems (Fit rd rg pl rd_val rd_mk other_key)
open Go.Maps (Keyed)
def R0 (_:Value):Option (DataW Unit×List MemPlace):=some (.nil,[])
def Rows (w:World) (P:Program) (k:TypeId) (base:Nat) (e:TypeId) (sz b n:Nat) (F:Value→List Value):Prop:=
 ∃ es clock,w.heap[b]? =some (.map es clock)∧Fit P k R0 es clock∧es.size≤n∧b<base∧
   (∀ x∈es.toList,∃ m,m≤n∧w.ownsRow base e sz x.val m (F x.key))∧(∀ key,(∀ x∈es.toList,x.key≠key)→F key=[])∧
   (∀ x∈es.toList,∀ y∈es.toList,x.key≠y.key→x.val.ownBlock=none∨x.val.ownBlock≠y.val.ownBlock)
open Classical in
noncomputable def upd (F:Value→List Value) (key:Value) (xs:List Value):Value→List Value:=fun y=>if y=key then xs else F y
variable {w:World} {P:Program} {k e:TypeId} {base sz b n:Nat} {F:Value→List Value}
def Back (w:World) (P:Program) (t k:TypeId) (base:Nat) (e:TypeId) (sz b n:Nat) (F:Value→List Value) (key v:Value):Prop:=
 ∀ (w1:World) (v':Value) (xs':List Value) (m':Nat),w.grownBy w1 v.ownBlock→w1.ownsRow base e sz v' m' xs'→m'≤n+1→(v'.ownBlock=v.ownBlock∨∃ g,v'.ownBlock=some g∧w.heap.size≤g)→
   ∃ w2,(Instr.mapUpdate t (.map (some b)) key v').run P w1=.ok () w2∧Rows w2 P k base e sz b (n+1) (upd F key xs')∧w1.grownBy w2 (some b)
theorem own_cell {w:World} {base:Nat} {e:TypeId} {sz m j:Nat} {v:Value} {xs:List Value} (h:w.ownsRow base e sz v m xs) (hj:j<m):
 ∃ g,(∃ cap,v=.slice (some ⟨g,0,none⟩) m cap)∧base≤g∧g<w.heap.size∧∀ c u,xs[c]? =some u→w.cell? ⟨g,c,none⟩=some u:=by
 rcases h.2 with ⟨rfl,h0⟩|⟨g,cap,cur,rfl,hg,hh,hn,hcap,hsz,ht⟩
 ·omega
 ·refine ⟨g,⟨cap,rfl⟩,hg,(Array.getElem?_eq_some_iff.1 hh).1,fun c u hu=> ?_⟩;rw [cell_of_row w g c cur e (0,0) hh];rw [← ht] at hu;rw [List.getElem?_take] at hu
  split at hu
  ·simpa using hu
  ·cases hu
theorem own_form {w:World} {base:Nat} {e:TypeId} {sz m:Nat} {v:Value} {xs:List Value} (h:w.ownsRow base e sz v m xs):∃ q cap,v=.slice q m cap:=by
 rcases h.2 with ⟨rfl,h0⟩|⟨g,cap,cur,rfl,_⟩
 ·exact ⟨none,0,by rw [h0]⟩
 ·exact ⟨_,_,rfl⟩
theorem flat_at {α:Type} {f:α→List Value} {sz:Nat} (hf:∀ x,(f x).length=sz):∀ (l:List α) (j c:Nat) (x:α) (u:Value),l[j]? =some x→(f x)[c]? =some u→(l.flatMap f)[j*sz+c]? =some u
 | [],j,c,x,u,h,_=>by simp at h
 |y :: r,0,c,x,u,h,hc=>by
  simp at h;subst h;rw [List.flatMap_cons,Nat.zero_mul,Nat.zero_add,List.getElem?_append_left (List.getElem?_eq_some_iff.1 hc).1];exact hc
 |y :: r,j+1,c,x,u,h,hc=>by
  rw [List.flatMap_cons,List.getElem?_append_right (by rw [hf,Nat.succ_mul];omega),hf];have:=flat_at hf r j c x u (by simpa using h) hc;rw [show (j+1)*sz+c-sz=j*sz+c by rw [Nat.succ_mul];omega];exact this
end Grp
end
section
open Go.RowKit NB
namespace ROcc
def occs (r:RuleV) (i y:Int) (n:Nat):List OccV:=(List.range n).map fun j=>Occ.occ r i (y+(j:Nat))
theorem occs_succ (r:RuleV) (i y:Int) (n:Nat):(occs r i y (n+1)).flatMap OccV.cells=(occs r i y n).flatMap OccV.cells++[.int .i64 i,.int .i64 (y+n),.int .i64 (Occ.nomR r (y+n))]:=by
 unfold occs;rw [List.range_succ,List.map_append,List.flatMap_append];rfl
theorem occs_len (r:RuleV) (i y:Int) (n:Nat):(occs r i y n).length=n:=by unfold occs;simp
theorem occs_at {r:RuleV} {i y:Int} {n j:Nat} (h:j<n):(occs r i y n)[j]? =some (Occ.occ r i (y+j)):=by
 unfold occs;rw [List.getElem?_map,List.getElem?_range h];rfl
def aroundL (r:RuleV) (i Y:Int):List OccV:=if Rul.right r then occs r i (Occ.lowA r Y) (Occ.highA r Y-Occ.lowA r Y+1).toNat else []
def AroundPost (B:Nat) (w:World) (l:List OccV) (e:Ending) (w':World):Prop:=∃ v,e=.returned v∧w'.ownsRow B 156 3 v l.length (l.flatMap OccV.cells)∧Below w.heap.size w w'
theorem info_occ:(prog.info? 156).map (fun i=>(i.zero,i.size,i.bytes))=some (some (.agg #[.int .i64 0,.int .i64 0,.int .i64 0]),3,24):=by kernel_rfl
theorem news3 {w:World} {b:Nat} {cs:Array Value} {t:TypeId} (h:Box w b cs t):∀ j u,cs.toList[j]? =some u→w.cell? ((⟨b,0,none⟩:Addr).add j)=some u:=by
 intro j u hu;have hadd:(⟨b,0,none⟩:Addr).add j=⟨b,j,none⟩:=by unfold Addr.add;split<;>simp_all
 rw [hadd,h.cell]
 simpa using hu
theorem own_later {w w':World} {B:Nat} {e:TypeId} {sz n:Nat} {v:Value} {xs:List Value} (h:w.ownsRow B e sz v n xs) (hb:Below w.heap.size w w'):w'.ownsRow B e sz v n xs:=by
 refine ⟨h.1,h.2.imp id ?_⟩;rintro ⟨g,cap,cur,h1,h2,h3,h4⟩;exact ⟨g,cap,cur,h1,h2,(hb.block g (Array.getElem?_eq_some_iff.1 h3).1).trans h3,h4⟩
theorem own_mono {w:World} {B B':Nat} {e:TypeId} {sz n:Nat} {v:Value} {xs:List Value} (h:w.ownsRow B e sz v n xs) (hB:B'≤B):w.ownsRow B' e sz v n xs:=by
 refine ⟨h.1,h.2.imp id ?_⟩;rintro ⟨g,cap,cur,h1,h2,h3⟩;exact ⟨g,cap,cur,h1,by omega,h3⟩
theorem own_row {w:World} {B:Nat} {e:TypeId} {sz n:Nat} {v:Value} {xs:List Value} (h:w.ownsRow B e sz v n xs):∀ k,v.ownBlock=some k→B≤k:=by
 intro k hk;rcases h.2 with ⟨h1,_⟩|⟨g,cap,cur,h1,h2,_⟩
 ·rw [h1] at hk;cases hk
 ·rw [h1] at hk;cases hk;exact h2
theorem Box.new' {X:World} {n:Nat} {cs:Array Value} {t:TypeId} (h:n=X.heap.size):Box (X.alloc (.cells cs t)) n cs t:=h ▸ Box.new X cs t
theorem Box.grown {X Y:World} {b B:Nat} {cs:Array Value} {t:TypeId} {row:Option Nat} (h:Box X b cs t) (hg:X.grownBy Y row) (hr:∀ k,row=some k→B≤k) (hb:b<B):Box Y b cs t:=
 (hg.block b h.lt (fun e=>by have:=hr b e.symm;omega)).trans h
theorem nearA_bd (t:Int): -50000≤Occ.nearA t∧Occ.nearA t≤50000:=by
 unfold Occ.nearA
 split
 ·rename_i h;rw [RCiv.ahead_lo,RCiv.ahead_hi] at h;have:=RCiv.dY_bd _ h.1 h.2;omega
 ·split<;>omega
set_option maxRecDepth 100000 in
set_option maxHeartbeats 6400000 in
theorem around (r:RuleV) (hr:r.Fit) (i t:Int) (ht:I64 t) (w:World):Calls prog 238 #[.agg r.cells.toArray,.int .i64 i,.int .i64 t] w (AroundPost w.heap.size w (aroundL r i (Occ.nearA t))):=by
 have cr:=RRule.Right r hr;have cn:=near t ht;have hYb:=nearA_bd t;generalize Occ.nearA t=Y at *;unfold aroundL;cases hR:Rul.right r
 ·rw [hR] at cr;rw [if_neg (by decide)];unfold RuleV.cells at *;have Cr:=kj cr;clear cr hR cn;go_enter func238,ntmps238
  go_wp2_with (go_at_call 194;(with_reducible refine (Cr.out _).mono ?_);rintro e w1 ⟨rfl,hb1⟩;obtain ⟨hc1_0,hf1_0,hz1_0⟩:=bcs hb1 (w.heap.size))
  go_ret;exact ⟨_,rfl,⟨rfl,.inl ⟨rfl,rfl⟩⟩,bcq⟩
 ·rw [hR] at cr;rw [if_pos rfl];have hy:=(Rul.right_spec hR).1;obtain ⟨a1,a2,a3⟩:=Occ.low_high hR Y;have hlo:Occ.lowA r Y=(if r.to<max r.fr (Y-2) then r.to else if min r.to (Y+2)<r.fr then r.fr else max r.fr (Y-2)):=rfl;have hhi:Occ.highA r Y=(if r.to<max r.fr (Y-2) then r.to else if min r.to (Y+2)<r.fr then r.fr else min r.to (Y+2)):=rfl;generalize Occ.lowA r Y=lo at *;generalize Occ.highA r Y=hi at *;have hn5:(hi-lo+1).toNat≤70000:=by omega
  obtain ⟨n,hn⟩:∃ n,n=(hi-lo+1).toNat:=⟨_,rfl⟩;rw [← hn] at hn5 ⊢;have hnom:∀ y:Int,lo≤y→y≤hi→Nom.nomE r y=(Occ.nomR r y,0):=by
   intro y h1 h2;unfold Nom.nomE;rw [hR,if_pos rfl,if_neg (by omega)]
  have cm:∀ (y:Int),lo≤y→y≤hi→∀ W,Calls prog 285 #[.agg r.cells.toArray,.int .i64 y] W fun e w'=>e=.returned (.tuple #[.int .i64 (Occ.nomR r y),.int .i64 0])∧Below W.heap.size W w':=by
   intro y h1 h2 W;have:=Nom r hr y W;rw [hnom y h1 h2] at this;exact this
  have HR:=kj hR;have Hn:=kj hn;unfold RuleV.cells at *;have Cr:=kj cr;have Cn:=kj cn;have Cm:=kj cm;clear cr cn cm hnom hR hn;obtain ⟨i0,hi0,hz0,hz1,hz2⟩:=info_parts info_occ
  by_cases hA:r.to<max r.fr (Y-2)
  case' pos=>
   rw [if_pos hA] at hlo hhi;have hsel:(lo≤r.to∧r.to≤lo)∧(hi≤r.to∧r.to≤hi):=by omega
  case' neg=>
   rw [if_neg hA] at hlo hhi
   by_cases hB:min r.to (Y+2)<r.fr
   case' pos=>
    rw [if_pos hB] at hlo hhi;have hsel:(lo≤r.fr∧r.fr≤lo)∧(hi≤r.fr∧r.fr≤hi):=by omega
   case' neg=>
    rw [if_neg hB] at hlo hhi;have hsel:(lo≤max r.fr (Y-2)∧max r.fr (Y-2)≤lo)∧(hi≤min r.to (Y+2)∧min r.to (Y+2)≤hi):=by omega
  all_goals
   clear hlo hhi;go_enter func238,ntmps238
   go_wp2_with (first|(go_at_call 194;(with_reducible refine (Cr.out _).mono ?_);rintro e w1 ⟨rfl,hb1⟩;obtain ⟨hc1_0,hf1_0,hz1_0⟩:=bcs hb1 (w.heap.size))|(go_at_call 284;(with_reducible refine (Cn.out _).mono ?_);rintro e w2 ⟨rfl,hb2⟩;obtain ⟨hc2_0,hf2_0,_⟩:=bcs hb2 (w.heap.size)))
   obtain ⟨N,hN0,hN1⟩:∃ N,N≤w2.heap.size∧w2.heap.size≤N:=⟨_,Nat.le_refl _,Nat.le_refl _⟩;have hbx:Box w2 w.heap.size #[.string r.name,.int .i64 r.fr,.int .i64 r.to,.int .i64 r.month,.int .i64 r.kind,.int .i64 r.week,.int .i64 r.day,.int .i64 r.sec,.int .i64 r.base,.int .i64 r.save,.string r.letter] 57:=bxq;have hB:Below w.heap.size w w2:=bcq
   go_region
   go_wp2
   try (go_quiet (fail);go_wp2)
   clear hb1 hc1_0 hf1_0 hb2 hc2_0 hf2_0;have hBs:=hB.size;have hxl:=hbx.lt
   go_loopw [7,11] (fun o y wr=>∃ (k:Nat) (v:Value),o=v∧y=.int .i64 (lo+k)∧k≤n∧wr.ownsRow N 156 3 v k ((occs r i lo k).flatMap OccV.cells)∧Below w.heap.size w wr∧N≤wr.heap.size∧Box wr w.heap.size #[.string r.name,.int .i64 r.fr,.int .i64 r.to,.int .i64 r.month,.int .i64 r.kind,.int .i64 r.week,.int .i64 r.day,.int .i64 r.sec,.int .i64 r.base,.int .i64 r.save,.string r.letter] 57) (fun _ y _=>match y with|.int _ q=>(hi-q+1).toNat|_=>0)
   case atStart=>exact ⟨0,_,rfl,by congr 1;omega,Nat.zero_le _,⟨rfl,.inl ⟨rfl,rfl⟩⟩,bcq,hN0,bxq⟩
   case round=>
    obtain ⟨k,v,rfl,rfl,hk,hown,hbel,hsz,hbox⟩:=hrel;clear hB hbx;have u0:=hbox.lt;have f0:=hbox.cell;have hnn:=Hn.out
    by_cases hlt:k<n
    ·have q0:lo+k≤hi:=by omega
     have Hnn:=kj hnn;have Hown:=kj hown;clear hnn hown
     go_wp2_with (first
      |(go_at_call 285;(with_reducible refine (Cm.out _ (by omega) q0 _).mono ?_);rintro e w3 ⟨rfl,hb3⟩;obtain ⟨_,_,_⟩:=bcs hb3 (w.heap.size))
      |(at_builtin;refine wpList_append_own _ (by rfl) _ _ 268 (by rfl) N 156 i0 _ 3 24 underlying268 hi0 hz0 hz1 hz2 (by rfl) (by decide) _ k _ (by rfl) ((own_later Hown.out hb3).alloc _) ⟨w3.heap.size,0,none⟩ 1 1 [.int .i64 i,.int .i64 (lo+k),.int .i64 (Occ.nomR r (lo+k))] (by rfl) (by rfl) (news3 (cs:=#[.int .i64 i,.int .i64 (lo+k),.int .i64 (Occ.nomR r (lo+k))]) (t:=156) (Box.new _ _ _)) ?_ ?_ ?_ ?_ ?_;(· intro u hu;simp only [List.mem_cons,List.not_mem_nil,or_false] at hu;rcases hu with rfl|rfl|rfl<;>rfl);(· unfold maxLen;omega);(· omega);(· have:=hb3.size;simp;omega);intro v' w4 hown' hgrow _))
     have hbb:Below w.heap.size w (w3.alloc (.cells #[.int .i64 i,.int .i64 (lo+k),.int .i64 (Occ.nomR r (lo+k))] 156)):=bcq;have hb4:Below w.heap.size w w4:=hbb.grown hgrow hbb.size (fun j e=>by have:=own_row Hown.out j e;omega);have hx4:Box w4 w.heap.size #[.string r.name,.int .i64 r.fr,.int .i64 r.to,.int .i64 r.month,.int .i64 r.kind,.int .i64 r.week,.int .i64 r.day,.int .i64 r.sec,.int .i64 r.base,.int .i64 r.save,.string r.letter] 57:=Box.grown (Box.old (Box.later hbox hb3)) hgrow (own_row Hown.out) (by omega);have hs4:N≤w4.heap.size:=by
      have h1:=hgrow.size;have h2:=hb3.size;simp only [World.size_alloc] at h1;omega
     go_roundw
     case rel=>exact ⟨k+1,v',rfl,by go_num,by omega,by rw [occs_succ];exact hown',hb4,hs4,hx4⟩
     case measure=>simp;omega
    ·go_wp2;go_ret;obtain rfl:k=n:=by omega
     exact ⟨_,rfl,by rw [occs_len];exact own_mono hown (by omega),hbel⟩
end ROcc
end
end Go.Proofs.YtgmfojgnjdpofaaGreatDoor
