import Derived.Test.YtgmfojgnjdpofaaGreatDoorH18
import Derived.Test.YtgmfojgnjdpofaaGreatDoorH10
import Derived.Test.YtgmfojgnjdpofaaGreatDoorH1
namespace Go.Proofs.YtgmfojgnjdpofaaGreatDoor
open Go.Proofs.Tryz
section
open Go.RowKit NB
namespace Eqs
def lightK (x:LinkV):Bool:=decide (x.name.size≤200)&&decide (x.target.size≤200)
def lightT (t:TabV):Bool:=Lgt.light t.rs&&(decide (t.zs.length≤10)&&(decide (t.ls.length≤16)&&(t.zs.all (fun z=>Zn.lightZ z.name z.es)&&t.ls.all lightK)))
theorem take_all {α:Type} {l:List α} {p:α→Bool} {k:Nat} {x:α} (hx:l[k]? =some x) (h:(l.take k).all p=true) (hp:p x=true):(l.take (k+1)).all p=true:=by
 rw [List.take_add_one,hx,List.all_append,h];simp [hp]
theorem not_all {α:Type} {l:List α} {p:α→Bool} {k:Nat} {x:α} (hx:l[k]? =some x) (hp:p x=false):l.all p=false:=by
 rw [Bool.eq_false_iff];intro h;rw [List.all_eq_true] at h;rw [h x (List.mem_of_getElem? hx)] at hp;cases hp
set_option maxRecDepth 100000 in
set_option maxHeartbeats 3200000 in
theorem Light {w:World} {t:TabV} (ht:HoldsT w t):Calls prog 48 #[.agg #[t.rv,t.zv,t.lv]] w fun e w'=>e=.returned (.bool (lightT t))∧Below w.heap.size w w':=by
 obtain ⟨rv,zv,lv,rs,zs,ls⟩:=t;have hr:=ht.r;obtain ⟨p,cap,e1,_⟩:=ht.r.g.pk;obtain ⟨pz,capz,e3,hpz⟩:=ht.z.pk;obtain ⟨pl,capl,e5,hpl⟩:=ht.l.pk;have l3:=ht.z.len;have l5:=ht.l.len;have zf:=ht.zf;have lf:=ht.lf;dsimp only at e1 e3 e5 hpz hpl l3 l5 zf lf hr ⊢;subst e1 e3 e5;clear ht;unfold lightT;dsimp only;have HR:=kj hr;obtain ⟨n,hn⟩:∃ n,n=rs.length:=⟨_,rfl⟩;obtain ⟨nz,hnz⟩:∃ nz,nz=zs.length:=⟨_,rfl⟩;obtain ⟨nl,hnl⟩:∃ nl,nl=ls.length:=⟨_,rfl⟩;have hlen:=hr.len;rw [← hnz] at l3 ⊢;rw [← hnl] at l5 ⊢;rw [← hn] at hlen ⊢;have HPZ:=kj hpz;have HPL:=kj hpl;have ZF:=kj zf;have LF:=kj lf;have HN:=kj hn;have HNZ:=kj hnz;have HNL:=kj hnl;clear hpz hpl zf lf hr hnz hnl;have cr:∀ X,Below w.heap.size w X→Calls prog 90 #[.slice p n cap] X fun e w'=>e=.returned (.bool (Lgt.light rs))∧Below X.heap.size X w':=fun X hX=>by rw [hn];exact Lgt.LightH (HR.out.later hX)
 have CR:=kj cr;clear cr hn;obtain ⟨lr,hlr⟩:∃ lr,lr=Lgt.light rs:=⟨_,rfl⟩;rw [← hlr] at CR ⊢;clear hlr;cases lr
 ·go_enter func48,ntmps48
  go_wp2_with (go_at_call 90;(with_reducible refine (CR.out _ ?_).mono ?_);(· exact bcq);rintro e w1 ⟨rfl,hb1⟩;obtain ⟨hc1,hf1⟩:=bcell hb1)
  go_ret;exact ⟨rfl,bcq⟩
 by_cases hz:nz≤10
 case neg=>
  rw [decide_eq_false hz];go_enter func48,ntmps48
  go_wp2_with (go_at_call 90;(with_reducible refine (CR.out _ ?_).mono ?_);(· exact bcq);rintro e w1 ⟨rfl,hb1⟩;obtain ⟨hc1_0,hf1_0,hz1_0⟩:=bcs hb1 (w.heap.size))
  go_ret;exact ⟨rfl,bcq⟩
 by_cases hl:nl≤16
 case neg=>
  rw [decide_eq_true hz,decide_eq_false hl];go_enter func48,ntmps48
  go_wp2_with (go_at_call 90;(with_reducible refine (CR.out _ ?_).mono ?_);(· exact bcq);rintro e w1 ⟨rfl,hb1⟩;obtain ⟨hc1_0,hf1_0,hz1_0⟩:=bcs hb1 (w.heap.size))
  go_ret;exact ⟨rfl,bcq⟩
 rw [decide_eq_true hz,decide_eq_true hl,Bool.true_and,Bool.true_and,Bool.true_and];go_enter func48,ntmps48
 go_wp2_with (go_at_call 90;(with_reducible refine (CR.out _ ?_).mono ?_);(· exact bcq);rintro e w1 ⟨rfl,hb1⟩;obtain ⟨hc1_0,hf1_0,hz1_0⟩:=bcs hb1 (w.heap.size))
 have b1:Box w1 w.heap.size #[.slice p n cap,.slice pz nz capz,.slice pl nl capl] 26:=(Box.new w _ _).later hb1;have hB1:Below w.heap.size w w1:=bcq
 go_loopw [26] (fun i wr=>∃ k:Nat,i=.int .i64 k∧k≤nz∧Below w1.heap.size w1 wr∧Hid ((zs.take k).all (fun z=>Zn.lightZ z.name z.es)=true)) (fun i _=>nz-(intOf i).toNat)
 case atStart=>exact ⟨0,rfl,Nat.zero_le _,Below.refl _ _,rfl⟩
 case round=>
  obtain ⟨k,rfl,hk,hbr,HS⟩:=hrel;obtain ⟨w2,rfl⟩:∃ w2:World,w2=wr:=⟨_,rfl⟩;have hbw:Below w.heap.size w w2:=hB1.trans (hbr.mono hB1.size);have b2:=b1.later hbr;have c2:=b2.cell;have m2:=b2.lt
  by_cases hlt:k<nz
  ·obtain ⟨x,hx⟩:∃ x,zs[k]? =some x:=⟨_,List.getElem?_eq_getElem (by rw [← HNZ.out];exact hlt)⟩;obtain ⟨g1,o1,rfl,hg1,d1⟩:=HPZ.out k x hx;have x0:=(hbw.cell (p:=⟨g1,o1+k*2+0,none⟩) hg1).trans (d1 0 _ rfl);have x1:=(hbw.cell (p:=⟨g1,o1+k*2+1,none⟩) hg1).trans (d1 1 _ rfl);rw [Nat.add_zero] at x0;have zfx:=ZF.out x (List.mem_of_getElem? hx);obtain ⟨nm,xv,es⟩:=x;obtain ⟨pp,cc,hv⟩:=zfx.e.form;dsimp only at hv x0 x1;subst hv;have CZ:=kj (fun (X:World) (hX:Below w.heap.size w X)=>Zn.LightZ (zfx.later hX).e nm zfx.n);have HX:=kj hx;obtain ⟨q,hq⟩:∃ q,q=Zn.lightZ nm es:=⟨_,rfl⟩;rw [← hq] at CZ;have HQ:=kj hq;clear d1 hx zfx hq;cases q
   ·go_wp2_with (go_at_call 91;(with_reducible refine (CZ.out _ ?_).mono ?_);(· exact bcq);rintro e w3 ⟨rfl,hb3⟩;obtain ⟨hc3_0,hf3_0,hz3_0⟩:=bcs hb3 (w.heap.size))
    go_ret;exact ⟨by rw [not_all HX.out HQ.out.symm];rfl,bcq⟩
   ·go_wp2_with (go_at_call 91;(with_reducible refine (CZ.out _ ?_).mono ?_);(· exact bcq);rintro e w3 ⟨rfl,hb3⟩;obtain ⟨hc3_0,hf3_0,hz3_0⟩:=bcs hb3 (w.heap.size))
    go_roundw
    case rel=>exact ⟨k+1,by go_num,by omega,bcq,take_all HX.out HS.out HQ.out.symm⟩
    case measure=>simp [intOf];omega
  ·obtain rfl:k=nz:=by omega
   have hZ:zs.all (fun z=>Zn.lightZ z.name z.es)=true:=by have:=HS.out;rwa [List.take_of_length_le (by rw [← HNZ.out];exact Nat.le_refl _)] at this
   have HZ:=kj hZ;clear hZ HS;go_wp2
   go_loopw [37] (fun i wr=>∃ k:Nat,i=.int .i64 k∧k≤nl∧Below w2.heap.size w2 wr∧Hid ((ls.take k).all lightK=true)) (fun i _=>nl-(intOf i).toNat)
   case atStart=>exact ⟨0,rfl,Nat.zero_le _,Below.refl _ _,rfl⟩
   case round=>
    obtain ⟨j,rfl,hj,hbr3,HS3⟩:=hrel;have hbw3:Below w.heap.size w wr:=hbw.trans (hbr3.mono hbw.size)
    by_cases hlt3:j<nl
    ·obtain ⟨x,hx⟩:∃ x,ls[j]? =some x:=⟨_,List.getElem?_eq_getElem (by rw [← HNL.out];exact hlt3)⟩;obtain ⟨g1,o1,rfl,hg1,d1⟩:=HPL.out j x hx;have x0:=(hbw3.cell (p:=⟨g1,o1+j*2+0,none⟩) hg1).trans (d1 0 _ rfl);have x1:=(hbw3.cell (p:=⟨g1,o1+j*2+1,none⟩) hg1).trans (d1 1 _ rfl);rw [Nat.add_zero] at x0;have lfx:=LF.out x (List.mem_of_getElem? hx);have z1:=lfx.t;have z2:=lfx.n;have HX:=kj hx;clear d1 hx lfx
     by_cases h1:x.name.size≤200
     ·by_cases h2:x.target.size≤200
      ·have HK:=kj (show lightK x=true by unfold lightK;rw [decide_eq_true h1,decide_eq_true h2];rfl);go_wp2;go_roundw
       case rel=>exact ⟨j+1,by go_num,by omega,bcq,take_all HX.out HS3.out HK.out⟩
       case measure=>simp [intOf];omega
      ·have HK:=kj (show lightK x=false by unfold lightK;rw [decide_eq_false h2,Bool.and_false]);have h3:200<x.target.size:=by omega
       clear h2;go_wp2;go_ret;exact ⟨by rw [HZ.out,not_all HX.out HK.out];rfl,bcq⟩
     ·have HK:=kj (show lightK x=false by unfold lightK;rw [decide_eq_false h1,Bool.false_and]);have h3:200<x.name.size:=by omega
      clear h1;go_wp2;go_ret;exact ⟨by rw [HZ.out,not_all HX.out HK.out];rfl,bcq⟩
    ·obtain rfl:j=nl:=by omega
     have hL:ls.all lightK=true:=by have:=HS3.out;rwa [List.take_of_length_le (by rw [← HNL.out];exact Nat.le_refl _)] at this
     have HL:=kj hL;clear hL;go_wp2;go_ret;exact ⟨by rw [HZ.out,HL.out];rfl,bcq⟩
end Eqs
end
section
open Go.RowKit NB
namespace RWd
theorem bAt {s:ByteArray} {k:Nat} (h:k<s.size):s.data.toList[k]? =some s[k]:=by
 rw [List.getElem?_eq_getElem (by simpa using h)];rfl
def lowB (c:UInt8):UInt8:=if 65≤c.toNat∧c.toNat≤90 then c+32 else c
theorem low_up (c:UInt8) (h:65≤c.toNat∧c.toNat≤90):((lowB c).toNat:Int)=(c.toNat:Int)+32:=by
 unfold lowB;rw [if_pos h,UInt8.toNat_add];have:(32:UInt8).toNat=32:=rfl;omega
theorem low_no (c:UInt8) (h:¬(65≤c.toNat∧c.toNat≤90)):lowB c=c:=if_neg h
theorem low (c:UInt8) (w:World):Calls prog 306 #[.int .u8 (c.toNat:Int)] w fun e w'=>e=.returned (.int .u8 ((lowB c).toNat:Int))∧w=w':=by
 have hcb:0≤(c.toNat:Int)∧(c.toNat:Int)<256:=by have:=c.toNat_lt;omega
 by_cases h:65≤c.toNat∧c.toNat≤90
 ·rw [low_up c h];have h1:(65:Int)≤(c.toNat:Int):=by omega
  have h2:(c.toNat:Int)≤90:=by omega
  have h3:((c.toNat:Int)+32)%256=(c.toNat:Int)+32:=by omega
  go_enter func306,ntmps306;go_wp2;go_ret;exact ⟨rfl,rfl⟩
 ·rw [low_no c h]
  by_cases h1:65≤c.toNat
  ·have h2:¬((c.toNat:Int)≤90):=by omega
   have h3:(65:Int)≤(c.toNat:Int):=by omega
   go_enter func306,ntmps306;go_wp2;go_ret;exact ⟨rfl,rfl⟩
  ·have h3:¬((65:Int)≤(c.toNat:Int)):=by omega
   go_enter func306,ntmps306;go_wp2;go_ret;exact ⟨rfl,rfl⟩
def begins (w s:ByteArray):Bool:=(s.data.toList.map lowB).isPrefixOf (w.data.toList.map lowB)
def Alike (w s:ByteArray) (k:Nat):Prop:=∀ (j:Nat) (a b:UInt8),j<k→w.data.toList[j]? =some a→s.data.toList[j]? =some b→lowB b=lowB a
theorem Alike.succ {w s:ByteArray} {k:Nat} (h:Alike w s k) {a b:UInt8} (ha:w.data.toList[k]? =some a) (hb:s.data.toList[k]? =some b) (e:lowB b=lowB a):Alike w s (k+1):=fun j x y hj hx hy=>by
 by_cases hjk:j=k
 ·subst hjk;rw [ha] at hx;rw [hb] at hy;cases hx;cases hy;exact e
 ·exact h j x y (by omega) hx hy
theorem begins_iff {w s:ByteArray}:begins w s=true↔s.size≤w.size∧Alike w s s.size:=by
 unfold begins Alike;rw [List.isPrefixOf_iff_prefix,List.prefix_iff_eq_take];have e1:s.data.toList.length=s.size:=by simp
 have e2:w.data.toList.length=w.size:=by simp
 constructor
 ·intro h;have hl:=congrArg List.length h;simp only [List.length_map,List.length_take,e1,e2] at hl;refine ⟨by omega,fun j a b hj ha hb=> ?_⟩;have:=congrArg (fun l=>l[j]?) h;simp only [List.getElem?_map,List.getElem?_take,List.length_map,e1,hj,if_true,ha,hb,Option.map_some,Option.some.injEq] at this;exact this
 ·rintro ⟨hl,h⟩;refine List.ext_getElem? fun j=> ?_;rw [List.getElem?_take,List.length_map,e1,List.getElem?_map,List.getElem?_map]
  by_cases hj:j<s.size
  ·rw [if_pos hj];have hb:s.data.toList[j]? =some (s.data.toList[j]'(by omega)):=List.getElem?_eq_getElem _;have ha:w.data.toList[j]? =some (w.data.toList[j]'(by omega)):=List.getElem?_eq_getElem _;rw [ha,hb,Option.map_some,Option.map_some,h j _ _ hj ha hb]
  ·rw [if_neg hj,List.getElem?_eq_none (by omega)];rfl
theorem begins_long {w s:ByteArray} (h:w.size<s.size):begins w s=false:=by
 cases hb:begins w s with
 |false=>rfl
 |true=>have:=(begins_iff.1 hb).1;omega
theorem begins_no {w s:ByteArray} {k:Nat} {a b:UInt8} (hk:k<s.size) (ha:w.data.toList[k]? =some a) (hb:s.data.toList[k]? =some b) (e:lowB b≠lowB a):begins w s=false:=by
 cases hh:begins w s with
 |false=>rfl
 |true=>exact absurd ((begins_iff.1 hh).2 k a b hk ha hb) e
set_option maxRecDepth 100000 in
theorem Begins (wd s:ByteArray) (hw:wd.size≤9223372036854775807) (w:World):Calls prog 292 #[.string wd,.string s] w fun e w'=>e=.returned (.bool (begins wd s))∧Below w.heap.size w w':=by
 by_cases h:wd.size<s.size
 ·rw [begins_long h];have q1:(wd.size:Int)<(s.size:Int):=by omega
  go_enter func292,ntmps292;go_wp2;go_ret;exact ⟨rfl,Below.refl _ _⟩
 ·obtain ⟨R,hR⟩:∃ r,r=begins wd s:=⟨_,rfl⟩;rw [← hR];have HR:=kj hR;clear hR;have q1:¬((wd.size:Int)<(s.size:Int)):=by omega
  have q2:s.size≤9223372036854775807:=by omega
  go_enter func292,ntmps292;go_wp2
  go_loopw [5] (fun i wr=>∃ k:Nat,i=.int .i64 k∧k≤s.size∧Below w.heap.size w wr∧Hid (Alike wd s k)) (fun i _=>s.size-(intOf i).toNat)
  case atStart=>exact ⟨0,rfl,Nat.zero_le _,Below.refl _ _,fun j _ _ hj=>absurd hj (Nat.not_lt_zero _)⟩
  case round=>
   obtain ⟨k,rfl,hk,hbr,HA⟩:=hrel
   by_cases hlt:k<s.size
   ·have hlt2:k<wd.size:=by omega
    have hb:=bAt hlt;have ha:=bAt hlt2;have H1:=kj hb;have H2:=kj ha;clear ha hb;have q3:(k:Int)<(s.size:Int):=by omega
    by_cases e:lowB s[k]=lowB wd[k]
    ·have he:(((lowB s[k]).toNat:Int)==((lowB wd[k]).toNat:Int))=true:=by rw [e];simp
     have HE:=kj e;clear e
     go_upto_region 6 with fail
     (refine region_later (by kernel_rfl) (by kernel_rfl) ?_;(repeat (go_big_quiet_step (first|(go_at_call 306;rename_i xL;apply calls_later xL (Nat.le_refl _);exact (below_of_same (low _ _))))));refine wpQuiet_nil ?_;rintro uq1 ⟨xU,eU⟩;have huq1:=xU.h;rw [← eU] at huq1;clear eU xU)
     go_wp2;go_roundw
     case rel=>exact ⟨k+1,by go_num,by omega,bcq,HA.out.succ H2.out H1.out HE.out⟩
     case measure=>simp [intOf];omega
    ·have he:(((lowB s[k]).toNat:Int)==((lowB wd[k]).toNat:Int))=false:=by
      rw [beq_eq_false_iff_ne];intro h;exact e (UInt8.toNat_inj.1 (by omega))
     have HE:=kj (begins_no hlt H2.out H1.out e);clear e
     go_upto_region 6 with fail
     (refine region_later (by kernel_rfl) (by kernel_rfl) ?_;(repeat (go_big_quiet_step (first|(go_at_call 306;rename_i xL;apply calls_later xL (Nat.le_refl _);exact (below_of_same (low _ _))))));refine wpQuiet_nil ?_;rintro uq1 ⟨xU,eU⟩;have huq1:=xU.h;rw [← eU] at huq1;clear eU xU)
     go_wp2;go_ret;exact ⟨by rw [HR.out,HE.out];rfl,bcq⟩
   ·obtain rfl:k=s.size:=by omega
    have HE:=kj (begins_iff.2 ⟨by omega,HA.out⟩);go_wp2;go_ret;exact ⟨by rw [HR.out,HE.out];rfl,bcq⟩
def same (a b:ByteArray):Bool:=a.size==b.size&&begins a b
theorem Same (a b:ByteArray) (ha:a.size≤9223372036854775807) (w:World):Calls prog 291 #[.string a,.string b] w fun e w'=>e=.returned (.bool (same a b))∧Below w.heap.size w w':=by
 have c:=fun w=>Begins a b ha w;unfold same
 by_cases h:a.size=b.size
 ·have e1:((a.size:Int)==(b.size:Int))=true:=by simp [h]
  have e2:(a.size==b.size)=true:=by simp [h]
  obtain ⟨R,hR⟩:∃ r,r=begins a b:=⟨_,rfl⟩;rw [← hR] at c;rw [e2, ←hR,Bool.true_and];clear hR h;go_enter func291,ntmps291
  go_wp2_with (go_at_call 292;refine (c _).mono ?_;rintro e w1 ⟨rfl,hb1⟩)
  go_ret;exact ⟨rfl,bcq⟩
 ·have e1:((a.size:Int)==(b.size:Int))=false:=by simp;omega
  have e2:(a.size==b.size)=false:=by simp [h]
  rw [e2,Bool.false_and];go_enter func291,ntmps291;go_wp2;go_ret;exact ⟨rfl,Below.refl _ _⟩
end RWd
end
section
namespace Rd
abbrev Bs:=List UInt8
def ofL (l:Bs):ByteArray:=⟨l.toArray⟩
theorem ofL_list (l:Bs):(ofL l).data.toList=l:=by simp [ofL]
theorem ofL_self (s:ByteArray):ofL s.data.toList=s:=by
 apply ByteArray.ext;simp [ofL]
theorem ofL_size (l:Bs):(ofL l).size=l.length:=by
 show l.toArray.size=_;simp
theorem ofL_app (a b:Bs):ofL a++ofL b=ofL (a++b):=by
 apply ByteArray.ext;simp [ofL]
theorem ofL_inj {a b:Bs} (h:ofL a=ofL b):a=b:=by
 have:=congrArg (fun s:ByteArray=>s.data.toList) h
 simpa [ofL] using this
theorem len_list (s:ByteArray):s.data.toList.length=s.size:=by simp
theorem ext_list (s:ByteArray) (a b:Nat):(s.extract a b).data.toList=(s.data.toList.take b).drop a:=by
 simp [List.drop_take]
def isD (c:UInt8):Bool:=decide (48≤c.toNat∧c.toNat≤57)
def digs (l:Bs):Bool:= !l.isEmpty&&l.all isD
def valF (n:Nat) (l:Bs):Nat:=l.foldl (fun n c=>10*n+(c.toNat-48)) n
def val (l:Bs):Nat:=valF 0 l
theorem valF_snoc (n:Nat) (l:Bs) (c:UInt8):valF n (l++[c])=10*valF n l+(c.toNat-48):=by simp [valF]
theorem val_snoc (l:Bs) (c:UInt8):val (l++[c])=10*val l+(c.toNat-48):=valF_snoc 0 l c
theorem valF_lt (l:Bs) (h:l.all isD=true):∀ n,valF n l<(n+1)*10 ^ l.length:=by
 induction l with
 |nil=>intro n;simp [valF]
 |cons c r ih=>
  intro n;rw [List.all_cons,Bool.and_eq_true] at h;have h1:=of_decide_eq_true h.1;have:=ih h.2 (10*n+(c.toNat-48));show valF (10*n+(c.toNat-48)) r<_;refine Nat.lt_of_lt_of_le this ?_;rw [List.length_cons,Nat.pow_succ,Nat.mul_comm (10 ^ r.length) 10, ←Nat.mul_assoc];exact Nat.mul_le_mul_right _ (by omega)
theorem val_lt {l:Bs} (h:l.all isD=true):val l<10 ^ l.length:=by
 have:=valF_lt l h 0
 simpa [val] using this
def dg (n:Nat):UInt8:=UInt8.ofNat (48+n)
def decF:Nat→Nat→Bs
 |0,n=>[dg (n%10)]
 |k+1,n=>if n<10 then [dg n] else decF k (n/10)++[dg (n%10)]
def dec (n:Nat):Bs:=decF 19 n
theorem dec_small {n:Nat} (h:n<10):dec n=[dg n]:=by
 unfold dec decF;rw [if_pos h]
theorem decF_more:∀ (k j n:Nat),n<10 ^ (k+1)→k≤j→decF k n=decF j n:=by
 intro k
 induction k with
 |zero=>
  intro j n h hj;have h10:n<10:=by simpa using h
  cases j with
  |zero=>rfl
  |succ j=>unfold decF;rw [if_pos h10,Nat.mod_eq_of_lt h10]
 |succ k ih=>
  intro j n h hj;cases j with
  |zero=>omega
  |succ j=>
   unfold decF
   by_cases h10:n<10
   ·rw [if_pos h10,if_pos h10]
   ·rw [if_neg h10,if_neg h10,ih j (n/10) (by rw [Nat.pow_succ] at h;omega) (by omega)]
theorem dec_step {n:Nat} (h:¬n<10) (hn:n<10 ^ 20):dec n=dec (n/10)++[dg (n%10)]:=by
 have e:dec n=decF 18 (n/10)++[dg (n%10)]:=by
  unfold dec;rw [show (19:Nat)=18+1 from rfl,decF,if_neg h]
 rw [e,decF_more 18 19 (n/10) (by rw [Nat.pow_succ] at hn ⊢;omega) (by omega)];rfl
theorem dig_nat {n:Nat} (h:n<10):(dg n).toNat=48+n:=by
 unfold dg;rw [UInt8.toNat_ofNat'];omega
theorem isD_dig {n:Nat} (h:n<10):isD (dg n)=true:=by
 unfold isD;rw [dig_nat h];exact decide_eq_true (by omega)
theorem decF_all:∀ k n,(decF k n).all isD=true:=by
 intro k
 induction k with
 |zero=>intro n;simp [decF,isD_dig (Nat.mod_lt n (by omega))]
 |succ k ih=>
  intro n;unfold decF
  by_cases h:n<10
  ·rw [if_pos h];simp [isD_dig h]
  ·rw [if_neg h];rw [List.all_append,ih];simp [isD_dig (Nat.mod_lt n (by omega))]
theorem dec_all (n:Nat):(dec n).all isD=true:=decF_all _ _
theorem decF_ne:∀ k n,decF k n≠[]:=by
 intro k n;cases k with
 |zero=>simp [decF]
 |succ k=>unfold decF;split<;>simp
theorem dec_ne (n:Nat):dec n≠[]:=decF_ne _ _
theorem dec_digs (n:Nat):digs (dec n)=true:=by
 unfold digs;rw [dec_all];cases h:dec n with
 |nil=>exact absurd h (dec_ne n)
 |cons a b=>rfl
theorem dec_val:∀ n:Nat,n<10 ^ 20→val (dec n)=n:=by
 intro n
 induction n using Nat.strongRecOn with
 |ind n ih=>
  intro hn
  by_cases h:n<10
  ·rw [dec_small h];show 10*0+((dg n).toNat-48)=n;rw [dig_nat h];omega
  ·rw [dec_step h hn,val_snoc,ih (n/10) (by omega) (by omega),dig_nat (Nat.mod_lt n (by omega))];omega
theorem dec_len:∀ (k n:Nat),n<10 ^ (k+1)→k<19→(dec n).length≤k+1:=by
 intro k
 induction k with
 |zero=>intro n h _;rw [dec_small (by simpa using h)];simp
 |succ k ih=>
  intro n h hk
  by_cases h10:n<10
  ·rw [dec_small h10];simp
  ·have hb:n<10 ^ 20:=Nat.lt_of_lt_of_le h (Nat.pow_le_pow_right (by omega) (by omega));rw [dec_step h10 hb,List.length_append];have:=ih (n/10) (by rw [Nat.pow_succ] at h;omega) (by omega);simp;exact this
theorem dec_head:∀ n:Nat,n<10 ^ 20→n≠0→(dec n).head? ≠some 48:=by
 intro n
 induction n using Nat.strongRecOn with
 |ind n ih=>
  intro hn h0
  by_cases h:n<10
  ·rw [dec_small h];simp only [List.head?_cons,ne_eq,Option.some.injEq];intro e;have:=congrArg UInt8.toNat e;rw [dig_nat h] at this;have h48:(48:UInt8).toNat=48:=rfl;omega
  ·rw [dec_step h hn];have:=ih (n/10) (by omega) (by omega) (by omega);cases hd:dec (n/10) with
   |nil=>exact absurd hd (dec_ne _)
   |cons a b=>rw [hd] at this;simpa using this
def textN (n:Int):Bs:=if n<0 then 45 :: dec (-n).toNat else dec n.toNat
def negB (s:ByteArray):Bool:=decide (s.data.toList.head? =some 45)
def bodyB (s:ByteArray):ByteArray:=if negB s=true then s.extract 1 s.size else s
def readN (s:ByteArray):Int×Int:=
 if digs (bodyB s).data.toList=false∨(1<(bodyB s).size∧(bodyB s).data.toList.head? =some 48)∨s.data.toList=[45,48] then (0,2)
 else if 19<(bodyB s).size then (0,1)
 else if negB s=true then (if 9223372036854775808<val (bodyB s).data.toList then (0,1) else (-(val (bodyB s).data.toList:Int),0))
 else if 9223372036854775807<val (bodyB s).data.toList then (0,1) else ((val (bodyB s).data.toList:Int),0)
theorem digit_no {l:Bs} (h:l.all isD=true) {c:UInt8} (hc:isD c=false):c∉l:=fun hm=>by
 have:=List.all_eq_true.1 h c hm;rw [hc] at this;cases this
theorem dec_head_no (n:Nat) {c:UInt8} (hc:isD c=false):(dec n).head? ≠some c:=fun h=>
 digit_no (dec_all n) hc (List.mem_of_head? h)
theorem body_neg (l:Bs):negB (ofL (45 :: l))=true∧bodyB (ofL (45 :: l))=ofL l:=by
 have h:negB (ofL (45 :: l))=true:=by unfold negB;rw [ofL_list];rfl
 refine ⟨h,?_⟩;unfold bodyB;rw [if_pos h];have:=ofL_self ((ofL (45 :: l)).extract 1 (ofL (45 :: l)).size);rw [← this,ext_list,ofL_list,ofL_size];simp
theorem body_pos {l:Bs} (h:l.head? ≠some 45):negB (ofL l)=false∧bodyB (ofL l)=ofL l:=by
 have h:negB (ofL l)=false:=by unfold negB;rw [ofL_list];exact decide_eq_false h
 refine ⟨h,?_⟩;unfold bodyB;rw [if_neg (by rw [h];decide)]
theorem readN_textN (n:Int) (h0: -1000000000000<n) (h1:n<1000000000000):readN (ofL (textN n))=(n,0):=by
 have hlong:∀ m:Nat,m<1000000000000→¬19<(dec m).length:=fun m hm=>by
  have:=dec_len 12 m (by simpa using (by omega:m<10000000000000)) (by omega);omega
 by_cases hn:n<0
 ·obtain ⟨m,hm⟩:∃ m:Nat,(-n).toNat=m:=⟨_,rfl⟩;have hmv:n= -(m:Int):=by omega
  have hv:=dec_val m (by omega);unfold textN;rw [if_pos hn,hm];obtain ⟨e1,e2⟩:=body_neg (dec m);unfold readN;rw [e1,e2,ofL_list,ofL_size,ofL_list,if_neg,if_neg (hlong m (by omega)),if_pos rfl,if_neg (by rw [hv];omega),hv,hmv];rintro (h|⟨h,h'⟩|h)
  ·rw [dec_digs] at h;cases h
  ·exact dec_head m (by omega) (by omega) h'
  ·have h2:=(List.cons.inj h).2;rw [h2] at hv;have:val [48]=0:=rfl;omega
 ·obtain ⟨m,hm⟩:∃ m:Nat,n.toNat=m:=⟨_,rfl⟩;have hmv:n=(m:Int):=by omega
  have hv:=dec_val m (by omega);unfold textN;rw [if_neg hn,hm];obtain ⟨e1,e2⟩:=body_pos (dec_head_no m (c:=45) (by decide));unfold readN;rw [e1,e2,ofL_list,ofL_size,if_neg,if_neg (hlong m (by omega)),if_neg (by decide),if_neg (by rw [hv];omega),hv,hmv];rintro (h|⟨h,h'⟩|h)
  ·rw [dec_digs] at h;cases h
  ·by_cases h0:m=0
   ·subst h0;rw [dec_small (by omega)] at h;simp at h
   ·exact dec_head m (by omega) h0 h'
  ·exact dec_head_no m (c:=45) (by decide) (by rw [h];rfl)
def cutF:Bs→Bs→List Bs
 |cur,[]=>[cur]
 |cur,c :: r=>if c=58 then cur :: cutF [] r else cutF (cur++[c]) r
theorem cutF_app:∀ (a cur r:Bs),(58:UInt8)∉a→cutF cur (a++58 :: r)=(cur++a) :: cutF [] r:=by
 intro a
 induction a with
 |nil=>intro cur r _;simp [cutF]
 |cons c a ih=>
  intro cur r h;have hc:c≠58:=fun e=>h (by rw [e];simp);rw [List.cons_append,cutF,if_neg hc,ih (cur++[c]) r (fun hm=>h (by simp [hm]))];simp
theorem cutF_end:∀ (a cur:Bs),(58:UInt8)∉a→cutF cur a=[cur++a]:=by
 intro a
 induction a with
 |nil=>intro cur _;simp [cutF]
 |cons c a ih=>
  intro cur h;have hc:c≠58:=fun e=>h (by rw [e];simp);rw [cutF,if_neg hc,ih (cur++[c]) (fun hm=>h (by simp [hm]))];simp
def partV (s:ByteArray) (least most:Nat):Int×Bool:=
 if s.size<least∨most<s.size∨digs s.data.toList=false then (0,false) else ((val s.data.toList:Int),true)
def unit (i:Nat):Int:=if i=0 then 3600 else if i=1 then 60 else 1
def sumA:Nat→List ByteArray→Int→Bool→Option (Int×Bool)
 |_,[],sum,fits=>some (sum,fits)
 |i,x :: r,sum,fits=>
  if (partV x (if i=0 then 1 else 2) (if i=0 then 3 else 2)).2=false then none
  else sumA (i+1) r (sum+(partV x (if i=0 then 1 else 2) (if i=0 then 3 else 2)).1*unit i) (fits&&(decide (i=0)||decide ((partV x (if i=0 then 1 else 2) (if i=0 then 3 else 2)).1≤59)))
def cutB (s:ByteArray):List ByteArray:=(cutF [] s.data.toList).map ofL
def readA (s:ByteArray):Int×Int:=
 if s=ofL [45] then (0,0)
 else if 3<(cutB (bodyB s)).length then (0,2)
 else match sumA 0 (cutB (bodyB s)) 0 true with
  |none=>(0,2)
  |some (sum,fits)=>if fits=false∨604800≤sum then (0,1) else if negB s=true then (-sum,0) else (sum,0)
def twoL (n:Nat):Bs:=if n<10 then 48 :: dec n else dec n
def hmsL (a:Nat):Bs:=dec (a/3600)++58 :: (twoL (a/60%60)++(if 0<a%60 then 58 :: twoL (a%60) else []))
def textA (n:Int):Bs:=if n=0 then [48] else if n<0 then 45 :: hmsL (-n).toNat else hmsL n.toNat
theorem two_all (n:Nat):(twoL n).all isD=true:=by
 unfold twoL
 split
 ·rw [List.all_cons,dec_all];rfl
 ·exact dec_all n
theorem two_len {n:Nat} (h:n<60):(twoL n).length=2:=by
 unfold twoL
 by_cases h1:n<10
 ·rw [if_pos h1,dec_small h1];rfl
 ·rw [if_neg h1,dec_step h1 (by omega),dec_small (by omega)];rfl
theorem two_val {n:Nat} (h:n<60):val (twoL n)=n:=by
 unfold twoL
 by_cases h1:n<10
 ·rw [if_pos h1];have:=dec_val n (by omega);exact this
 ·rw [if_neg h1];exact dec_val n (by omega)
theorem digs_of {l:Bs} (h:l.all isD=true) (h0:0<l.length):digs l=true:=by
 unfold digs;rw [h];cases l with
 |nil=>simp at h0
 |cons a b=>rfl
theorem part_two {n:Nat} (h:n<60):partV (ofL (twoL n)) 2 2=((n:Int),true):=by
 unfold partV;rw [ofL_list,ofL_size,two_len h,if_neg,two_val h];rintro (h1|h1|h1)
 ·omega
 ·omega
 ·rw [digs_of (two_all n) (by rw [two_len h];omega)] at h1;cases h1
theorem part_dec {n:Nat} (h:n<1000):partV (ofL (dec n)) 1 3=((n:Int),true):=by
 have h1:0<(dec n).length:=List.length_pos_iff.2 (dec_ne n);have h2:=dec_len 2 n (by simpa using h) (by omega);unfold partV;rw [ofL_list,ofL_size,if_neg,dec_val n (by omega)];rintro (h1|h1|h1)
 ·omega
 ·omega
 ·rw [dec_digs] at h1;cases h1
theorem cut_hms (a:Nat):cutF [] (hmsL a)=dec (a/3600) :: twoL (a/60%60) :: (if 0<a%60 then [twoL (a%60)] else []):=by
 have h58:isD 58=false:=by decide
 unfold hmsL;rw [cutF_app _ _ _ (digit_no (dec_all _) h58),List.nil_append]
 by_cases h:0<a%60
 ·rw [if_pos h,if_pos h,cutF_app _ _ _ (digit_no (two_all _) h58),cutF_end _ _ (digit_no (two_all _) h58)];simp
 ·rw [if_neg h,if_neg h,List.append_nil,cutF_end _ _ (digit_no (two_all _) h58)];simp
theorem sum_hms {a:Nat} (h:a<604800):sumA 0 ((cutF [] (hmsL a)).map ofL) 0 true=some ((a:Int),true):=by
 have e1:=part_dec (n:=a/3600) (by omega);have e2:=part_two (n:=a/60%60) (by omega);have e3:=part_two (n:=a%60) (by omega);have d2:decide (((a/60%60:Nat):Int)≤59)=true:=decide_eq_true (by omega);have d3:decide (((a%60:Nat):Int)≤59)=true:=decide_eq_true (by omega);rw [cut_hms]
 by_cases hs:0<a%60
 ·rw [if_pos hs];simp only [List.map_cons,List.map_nil,sumA,unit,if_true,if_false,e1,e2,e3,d2,d3,Bool.true_eq_false,decide_true,Bool.true_or,Bool.or_true,Bool.and_self,Nat.zero_add,Nat.reduceAdd,Nat.one_ne_zero,Nat.reduceEqDiff,decide_false]
  congr 2
  omega
 ·rw [if_neg hs];simp only [List.map_cons,List.map_nil,sumA,unit,if_true,if_false,e1,e2,d2,Bool.true_eq_false,decide_true,Bool.true_or,Bool.or_true,Bool.and_self,Nat.zero_add,Nat.one_ne_zero]
  congr 2
  omega
theorem hms_head (a:Nat):(hmsL a).head? ≠some 45:=by
 unfold hmsL;cases h:dec (a/3600) with
 |nil=>exact absurd h (dec_ne _)
 |cons x r=>
  have:=dec_head_no (a/3600) (c:=45) (by decide);rw [h] at this
  simpa using this
theorem hms_ne (a:Nat):hmsL a≠[]:=by
 unfold hmsL;intro h;exact dec_ne _ (List.append_eq_nil_iff.1 h).1
theorem cut_len (a:Nat):¬3<((cutF [] (hmsL a)).map ofL).length:=by
 rw [cut_hms]
 split<;>simp
theorem readA_textA (n:Int) (h0: -604800<n) (h1:n<604800):readA (ofL (textA n))=(n,0):=by
 by_cases hz:n=0
 ·subst hz;decide +kernel
 ·by_cases hn:n<0
  ·obtain ⟨m,hm⟩:∃ m:Nat,(-n).toNat=m:=⟨_,rfl⟩;have hmv:n= -(m:Int):=by omega
   unfold textA;rw [if_neg hz,if_pos hn,hm];obtain ⟨e1,e2⟩:=body_neg (hmsL m);unfold readA cutB;rw [e1,e2,ofL_list,if_neg (fun h=>hms_ne m (List.cons.inj (ofL_inj h)).2),if_neg (cut_len m),sum_hms (by omega)];simp only [Bool.true_eq_false,false_or,if_true];rw [if_neg (by omega),hmv]
  ·obtain ⟨m,hm⟩:∃ m:Nat,n.toNat=m:=⟨_,rfl⟩;have hmv:n=(m:Int):=by omega
   unfold textA;rw [if_neg hz,if_neg hn,hm];obtain ⟨e1,e2⟩:=body_pos (hms_head m);unfold readA cutB;rw [e1,e2,ofL_list,if_neg (fun h=>hms_head m (by rw [ofL_inj h];rfl)),if_neg (cut_len m),sum_hms (by omega)];simp only [Bool.true_eq_false,false_or,Bool.false_eq_true,if_false];rw [if_neg (by omega),hmv]
end Rd
end
end Go.Proofs.YtgmfojgnjdpofaaGreatDoor
