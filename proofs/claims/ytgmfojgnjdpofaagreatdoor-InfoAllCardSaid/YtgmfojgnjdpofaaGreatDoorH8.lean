import Derived.Test.YtgmfojgnjdpofaaGreatDoorH3
import Derived.Test.YtgmfojgnjdpofaaGreatDoorH7
import Derived.Test.YtgmfojgnjdpofaaGreatDoorH2
import Derived.Test.YtgmfojgnjdpofaaGreatDoorH1
import Derived.Test.YtgmfojgnjdpofaaGreatDoorProg
namespace Go.Proofs.YtgmfojgnjdpofaaGreatDoor
open Go.Proofs.Tryz
section
open Go.RowKit NB Nxt
namespace Unt
def nomV (u:UntilV):Int:=Day.dayI u.kind u.week u.day u.year u.month*86400+u.sec
def nomU (u:UntilV):Int×Int:=if u.has then (if Er.endB u then (nomV u,0) else (0,4)) else (0,12)
theorem end_spec {u:UntilV} (hh:u.has=true) (h:Er.endB u=true):(-32767<u.year∧u.year<32767)∧Day.fits u.kind u.week u.day u.month=true∧(0≤u.sec∧u.sec≤172800)∧(0≤u.base∧u.base≤2)∧ -2000000000000≤nomV u∧nomV u≤2000000000000:=by
 unfold Er.endB Er.yearB Rul.clockRight at h;rw [if_pos hh] at h;simp only [Bool.and_eq_true,decide_eq_true_eq] at h;obtain ⟨⟨⟨h1,h2⟩,h3⟩,h4⟩:=h;have hb:=Nom.day_bd h3 (y:=u.year) (by omega) (by omega);have hs:(0≤u.sec∧u.sec≤172800)∧(0≤u.base∧u.base≤2):=by omega
 unfold nomV;exact ⟨⟨h1,h2⟩,h3,hs.1,hs.2,by omega,by omega⟩
def savedE (l:List RuleV) (e:EraV) (n:Int):Int:=if e.kind=2 then Chn.saved l e.rules ⟨-1,0,n⟩ else e.save
def instU (l:List RuleV) (e:EraV):Int×Int:=if Er.rightB e then (if e.u.has then (nomV e.u-Chn.shift e.off e.u.base (savedE l e (nomV e.u)),0) else (0,12)) else (0,4)
theorem right_spec {e:EraV} (h:Er.rightB e=true):(-54000≤e.off∧e.off≤54000)∧Er.endB e.u=true∧(-10800≤e.save∧e.save≤10800)∧(0≤e.kind∧e.kind≤2):=by
 unfold Er.rightB at h
 split at h
 ·rename_i h1;obtain ⟨h1,h2,h3⟩:=h1;simp only [Bool.and_eq_true,decide_eq_true_eq] at h1;refine ⟨h1,h3,?_⟩
  split at h
  ·rename_i hk;simp only [Bool.and_eq_true,decide_eq_true_eq] at h;omega
  ·split at h
   ·rename_i hk;simp only [Bool.and_eq_true,decide_eq_true_eq] at h;omega
   ·split at h
    ·rename_i hk;simp only [Bool.and_eq_true,decide_eq_true_eq] at h;omega
    ·cases h
 ·cases h
theorem saved_bd {l:List RuleV} {e:EraV} (h:Er.rightB e=true) (n:Int): -10800≤savedE l e n∧savedE l e n≤10800:=by
 unfold savedE
 split
 ·exact Chn.saved_bd _ _ _
 ·exact (right_spec h).2.2.1
def exU (u:UntilV):EraV:=⟨0,0,0,⟨#[]⟩,⟨#[88]⟩,u⟩
theorem fit_ex {u:UntilV} (hu:u.Fit):(exU u).Fit:=⟨by show (⟨#[]⟩:ByteArray).size≤_;decide,by show (⟨#[88]⟩:ByteArray).size≤_;decide,by show I64 0;unfold I64;decide,by show I64 0;unfold I64;decide,hu.year,hu.sec⟩
theorem checkX:Fmt.checkE ⟨#[88]⟩=0:=by decide +kernel
theorem right_ex (u:UntilV):Er.rightB (exU u)=Er.endB u:=by
 unfold Er.rightB exU;simp only [checkX];cases Er.endB u<;>simp
set_option maxHeartbeats 1600000 in
theorem Nom (u:UntilV) (hu:u.Fit) (w:World) (ht:Tab w):Calls prog 212 #[.agg u.cells.toArray] w fun x w'=>x=.returned (.tuple #[.int .i64 (nomU u).1,.int .i64 (nomU u).2])∧Below w.heap.size w w':=by
 have cr:=fun W h=>Er.Right (exU u) (fit_ex hu) W h;rw [right_ex] at cr;have cd:=fun W=>Day.Days u.kind u.week u.day u.year u.month W;unfold nomU UntilV.cells;unfold exU EraV.cells at cr;simp only at cr;cases hh:u.has
 ·rw [if_neg (by decide)];clear cr cd ht hh;go_enter func212,ntmps212;go_wp2;go_ret2;exact ⟨rfl,bcq⟩
 rw [hh] at cr;rw [if_pos rfl];have HT:=kj ht;clear ht;cases he:Er.endB u
 ·rw [if_neg (by decide)];rw [he] at cr;have Cr:=kj cr;clear cr cd hh he;go_enter func212,ntmps212
  go_wp2_with (go_at_call 96;(with_reducible refine (Cr.out _ ?_).mono ?_);(· exact HT.out.later bcq);rintro e w1 ⟨rfl,hb1⟩;obtain ⟨hc1_0,hf1_0,hz1_0⟩:=bcs hb1 (w.heap.size))
  go_ret2;exact ⟨rfl,bcq⟩
 ·rw [if_pos rfl];obtain ⟨s1,s2,s3,s4,s5,s6⟩:=end_spec hh he;rw [he] at cr;rw [s2,if_pos rfl,if_pos (by omega)] at cd;unfold nomV at *;generalize Day.dayI u.kind u.week u.day u.year u.month=d at *;have Cr:=kj cr;have Cd:=kj cd;clear cr cd hh he s2;go_enter func212,ntmps212
  go_wp2_with (first
   |(go_at_call 96;(with_reducible refine (Cr.out _ ?_).mono ?_);(· exact HT.out.later bcq);rintro e w1 ⟨rfl,hb1⟩;obtain ⟨hc1_0,hf1_0,hz1_0⟩:=bcs hb1 (w.heap.size))
   |(go_at_call 266;(with_reducible refine (Cd.out _).mono ?_);rintro e w2 ⟨rfl,hb2⟩;obtain ⟨_,_,_⟩:=bcs hb2 (w.heap.size)))
  go_ret2;exact ⟨rfl,bcq⟩
set_option maxRecDepth 100000 in
set_option maxHeartbeats 3200000 in
theorem Instant {w:World} {v:Value} {l:List RuleV} (h:Holds w v l) (e:EraV) (he:e.Fit) (ht:Tab w):Calls prog 151 #[v,.agg e.cells.toArray] w fun x w'=>x=.returned (.tuple #[.int .i64 (instU l e).1,.int .i64 (instU l e).2])∧Below w.heap.size w w':=by
 have cr:=fun W h=>Er.Right e he W h;have cn:=fun W h=>Nom e.u he.u W h;have ck:=fun W (h:Holds W v l)=>ChW.Clock h e.rules e.off (nomV e.u) e.u.base;unfold instU;cases hR:Er.rightB e
 ·rw [hR] at cr;rw [if_neg (by decide)];unfold EraV.cells at *;have Cr:=kj cr;have HT:=kj ht;obtain ⟨q,cap,rfl⟩:=h.form;clear cr cn ck ht h hR;generalize l.length=n at *;go_enter func151,ntmps151
  go_wp2_with (go_at_call 96;(with_reducible refine (Cr.out _ ?_).mono ?_);(· exact HT.out.later bcq);rintro e w1 ⟨rfl,hb1⟩;obtain ⟨hc1_0,hf1_0,hz1_0⟩:=bcs hb1 (w.heap.size))
  go_ret2;exact ⟨rfl,bcq⟩
 obtain ⟨r1,r2,r3,r4⟩:=right_spec hR;have sb:=saved_bd (l:=l) hR (nomV e.u);rw [hR] at cr;rw [if_pos rfl];unfold nomU at cn;obtain ⟨q,cap,rfl⟩:=h.form;obtain ⟨off,kind,save,rules,format,u⟩:=e;simp only at *;unfold EraV.cells at *;unfold UntilV.cells at *;simp only at *;cases hh:u.has
 ·rw [hh] at cr cn;rw [if_neg (by decide)] at cn ⊢;have Cr:=kj cr;have Cn:=kj cn;have HT:=kj ht;clear cr cn ck ht h hR he;generalize l.length=n at *;go_enter func151,ntmps151
  go_wp2_with (first
   |(go_at_call 96;(with_reducible refine (Cr.out _ ?_).mono ?_);(· exact HT.out.later bcq);rintro e w1 ⟨rfl,hb1⟩;obtain ⟨hc1_0,hf1_0,hz1_0⟩:=bcs hb1 (w.heap.size))
   |(go_at_call 212;(with_reducible refine (Cn.out _ ?_).mono ?_);(· exact HT.out.later bcq);rintro e w2 ⟨rfl,hb2⟩;obtain ⟨hc2_0,hf2_0,hz2_0⟩:=bcs hb2 (w.heap.size)))
  go_ret2;exact ⟨rfl,bcq⟩
 obtain ⟨s1,s2,s3,s4,s5,s6⟩:=end_spec hh r2;rw [hh] at cr cn;rw [if_pos rfl,if_pos r2] at cn;rw [if_pos rfl];have hck:kind=2→Chn.clockE l rules off (nomV u) u.base=(nomV u-Chn.shift off u.base (Chn.saved l rules ⟨-1,0,nomV u⟩),0):=by
  intro _;unfold Chn.clockE;rw [if_neg (by rw [Chn.may_iff.2 r1];simp;omega),if_neg (by omega)]
 unfold savedE at *;simp only at *;generalize nomV u=n at *
 by_cases hk:kind=2
 ·subst hk;rw [hck rfl] at ck;rw [if_pos rfl] at sb ⊢;generalize Chn.shift off u.base (Chn.saved l rules ⟨-1,0,n⟩)=s at *;simp only at ck;have HH:=kj h;have Cr:=kj cr;have Cn:=kj cn;have Ck:=kj ck;have HT:=kj ht;clear cr cn ck ht h hR he hck r2 s2 hh;generalize l.length=m at *;go_enter func151,ntmps151
  go_wp2_with (first
   |(go_at_call 96;(with_reducible refine (Cr.out _ ?_).mono ?_);(· exact HT.out.later bcq);rintro e w1 ⟨rfl,hb1⟩;obtain ⟨hc1_0,hf1_0,hz1_0⟩:=bcs hb1 (w.heap.size))
   |(go_at_call 212;(with_reducible refine (Cn.out _ ?_).mono ?_);(· exact HT.out.later bcq);rintro e w2 ⟨rfl,hb2⟩;obtain ⟨hc2_0,hf2_0,hz2_0⟩:=bcs hb2 (w.heap.size))
   |(go_at_call 213;(with_reducible refine (Ck.out _ ?_).mono ?_);(· exact HH.out.later bcq);rintro e w3 ⟨rfl,hb3⟩;obtain ⟨_,_,_⟩:=bcs hb3 (w.heap.size)))
  go_ret2;exact ⟨rfl,bcq⟩
 ·rw [if_neg hk] at sb ⊢;unfold Chn.shift;have Cr:=kj cr;have Cn:=kj cn;have HT:=kj ht;clear cr cn ck ht h hR he hck r2 s2 hh;generalize l.length=m at *;have hb:u.base=0∨u.base=1∨u.base=2:=by omega
  obtain ⟨has,year,month,uk,week,day,sec,base⟩:=u;simp only at *;rcases hb with rfl|rfl|rfl
  all_goals
   go_enter func151,ntmps151
   go_wp2_with (first
    |(go_at_call 96;(with_reducible refine (Cr.out _ ?_).mono ?_);(· exact HT.out.later bcq);rintro e w1 ⟨rfl,hb1⟩;obtain ⟨hc1_0,hf1_0,hz1_0⟩:=bcs hb1 (w.heap.size))
    |(go_at_call 212;(with_reducible refine (Cn.out _ ?_).mono ?_);(· exact HT.out.later bcq);rintro e w2 ⟨rfl,hb2⟩;obtain ⟨hc2_0,hf2_0,hz2_0⟩:=bcs hb2 (w.heap.size)))
   go_ret2;exact ⟨ret_ii (by first|rfl|omega|(simp;done)|(simp;omega)) rfl,bcq⟩
end Unt
end
section
open Go.RowKit NB
namespace Fmt
def FindIs (l:List UInt8) (c:UInt8) (r:Int):Prop:=(r= -1∧∀ j:Nat,l[j]? ≠some c)∨(r= -2∧∃ i j:Nat,i<j∧l[i]? =some c∧l[j]? =some c)∨(∃ i:Nat,r=i∧l[i]? =some c∧∀ j:Nat,l[j]? =some c→j=i)
def allow (l:List UInt8):Bool:=l.all fun c=>wset.contains c||c==37||c==47
def okR (l:List UInt8) (p q:Int):Bool:=
 (decide (0<l.length)&&decide (p= -1)&&decide (q= -1))||
 (decide (0≤p)&&decide (q= -1)&&decide (p+1<l.length)&&decide (l[p.toNat+1]? =some 115))||
 (decide (p= -1)&&decide (0<q)&&decide (q<l.length-1))||decide (l=[37,122])
theorem not37:wset.contains (37:UInt8)=false:=by decide +kernel
theorem not47:wset.contains (47:UInt8)=false:=by decide +kernel
theorem wd_not {l:List UInt8} (h:wd l=true) {c:UInt8} (hc:wset.contains c=false):∀ j:Nat,l[j]? ≠some c:=by
 intro j hj;unfold wd at h;rw [List.all_eq_true] at h;have:=h c (List.mem_of_getElem? hj);rw [hc] at this;cases this
theorem wd_of {l:List UInt8} (h:allow l=true) (h1:∀ j:Nat,l[j]? ≠some 37) (h2:∀ j:Nat,l[j]? ≠some 47):wd l=true:=by
 unfold wd;unfold allow at h;rw [List.all_eq_true] at h ⊢;intro x hx;have:=h x hx;obtain ⟨j,hj⟩:=List.mem_iff_getElem?.1 hx;simp only [Bool.or_eq_true,beq_iff_eq] at this;rcases this with (h3|h3)|h3
 ·exact h3
 ·subst h3;exact absurd hj (h1 j)
 ·subst h3;exact absurd hj (h2 j)
theorem allow_of_wd {l:List UInt8} (h:wd l=true):allow l=true:=by
 unfold wd at h;unfold allow;rw [List.all_eq_true] at h ⊢;intro x hx;rw [h x hx];rfl
theorem cut_at {a b sep:List UInt8} {c:UInt8} {t:List UInt8} (hs:sep=c :: t) (hc:wset.contains c=false) (ha:wd a=true):Go.Lib.cut (a++sep++b) sep=(a,b,true):=by
 have hi:Go.Lib.index (a++sep++b) sep=(a.length:Int):=by
  refine Go.Lib.index_first (by simp) ?_ ?_
  ·unfold Go.Lib.occAt;rw [List.append_assoc,List.drop_left];simp
  ·intro j hj;unfold Go.Lib.occAt;have hd:(a++sep++b).drop j=a[j] :: ((a++sep++b).drop (j+1)):=by
    rw [List.drop_eq_getElem_cons (by simp;omega)]
    congr 1
    simp [List.getElem_append_left hj]
   rw [hd,hs];have hne:¬c=a[j]:=fun e=>wd_not ha hc j (by rw [e];exact List.getElem?_eq_getElem hj);simp [List.isPrefixOf,hne]
 unfold Go.Lib.cut;rw [hi,if_pos (by omega)];simp only [Int.toNat_natCast];rw [List.append_assoc,List.take_left, ←List.append_assoc,show a.length+sep.length=(a++sep).length by simp,List.drop_left]
theorem cut_is {l sep:List UInt8} (h:(Go.Lib.cut l sep).2.2=true):l=(Go.Lib.cut l sep).1++sep++(Go.Lib.cut l sep).2.1:=by
 unfold Go.Lib.cut at h ⊢
 by_cases h0:0≤Go.Lib.index l sep
 ·rw [if_pos h0];simp only;rcases Go.Lib.index_spec l sep with ⟨h1,_⟩|⟨i,h1,h2,h3,_⟩
  ·omega
  ·rw [h1];simp only [Int.toNat_natCast];unfold Go.Lib.occAt at h3;obtain ⟨t,ht⟩:=List.isPrefixOf_iff_prefix.1 h3;have:l.drop (i+sep.length)=t:=by rw [← List.drop_drop, ←ht,List.drop_left]
   rw [this,List.append_assoc,ht,List.take_append_drop]
 ·rw [if_neg h0] at h;cases h
theorem find_none {l:List UInt8} {c:UInt8} {r:Int} (h:FindIs l c r) (hn:∀ j:Nat,l[j]? ≠some c):r= -1:=by
 rcases h with ⟨h,_⟩|⟨_,i,j,_,h,_⟩|⟨i,_,h,_⟩
 ·exact h
 ·exact absurd h (hn i)
 ·exact absurd h (hn i)
theorem find_one {l:List UInt8} {c:UInt8} {r:Int} {k:Nat} (h:FindIs l c r) (hk:l[k]? =some c) (hu:∀ j:Nat,l[j]? =some c→j=k):r=k:=by
 rcases h with ⟨_,h⟩|⟨_,i,j,hij,h1,h2⟩|⟨i,h,h1,_⟩
 ·exact absurd hk (h k)
 ·have:=hu i h1;have:=hu j h2;omega
 ·rw [h,hu i h1]
theorem pos_one {a r:List UInt8} {c:UInt8} (ha:∀ j:Nat,a[j]? ≠some c) (hr:∀ j:Nat,r[j]? ≠some c):(a++c :: r)[a.length]? =some c∧∀ j:Nat,(a++c :: r)[j]? =some c→j=a.length:=by
 refine ⟨by simp,fun j hj=> ?_⟩;rcases Nat.lt_trichotomy j a.length with h|h|h
 ·rw [List.getElem?_append_left h] at hj;exact absurd hj (ha j)
 ·exact h
 ·rw [List.getElem?_append_right (by omega)] at hj;obtain ⟨d,hd⟩:∃ d,j-a.length=d+1:=⟨j-a.length-1,by omega⟩;rw [hd,List.getElem?_cons_succ] at hj;exact absurd hj (hr d)
theorem no_in {a r:List UInt8} {c d:UInt8} (hd:d≠c) (ha:∀ j:Nat,a[j]? ≠some c) (hr:∀ j:Nat,r[j]? ≠some c):∀ j:Nat,(a++d :: r)[j]? ≠some c:=by
 intro j hj;have:=List.mem_of_getElem? hj;rw [List.mem_append,List.mem_cons] at this;rcases this with h|h|h
 ·obtain ⟨i,hi⟩:=List.mem_iff_getElem?.1 h;exact ha i hi
 ·exact hd h.symm
 ·obtain ⟨i,hi⟩:=List.mem_iff_getElem?.1 h;exact hr i hi
theorem allow_app {a b:List UInt8}:allow (a++b)=(allow a&&allow b):=by unfold allow;simp
theorem split_at {l:List UInt8} {i:Nat} {c:UInt8} (h:l[i]? =some c):l=l.take i++c :: l.drop (i+1):=by
 obtain ⟨hi,rfl⟩:=List.getElem?_eq_some_iff.1 h;rw [← List.drop_eq_getElem_cons hi,List.take_append_drop]
theorem take_no {l:List UInt8} {i:Nat} {c:UInt8} (h:∀ j:Nat,l[j]? =some c→j=i):∀ j:Nat,(l.take i)[j]? ≠some c:=by
 intro j hj;rw [List.getElem?_take] at hj
 split at hj
 ·have:=h j hj;omega
 ·cases hj
theorem drop_no {l:List UInt8} {i:Nat} {c:UInt8} (h:∀ j:Nat,l[j]? =some c→j=i) (d:Nat) (hd:i<d):∀ j:Nat,(l.drop d)[j]? ≠some c:=by
 intro j hj;rw [List.getElem?_drop] at hj;have:=h _ hj;omega
theorem sub_no {l:List UInt8} {c:UInt8} (h:∀ j:Nat,l[j]? ≠some c) (i:Nat):(∀ j:Nat,(l.take i)[j]? ≠some c)∧(∀ j:Nat,(l.drop i)[j]? ≠some c):=
 ⟨fun j hj=>h j (by
   rw [List.getElem?_take] at hj
   by_cases hji:j<i
   ·rwa [if_pos hji] at hj
   ·rw [if_neg hji] at hj;cases hj),fun j hj=>h (i+j) (by rwa [List.getElem?_drop] at hj)⟩
theorem allow_sub {l:List UInt8} (h:allow l=true) (i:Nat):allow (l.take i)=true∧allow (l.drop i)=true:=by
 have e:=List.take_append_drop i l;rw [← e,allow_app,Bool.and_eq_true] at h;exact h
def K1 (l:List UInt8):Prop:=(Go.Lib.cut l [37,115]).2.2=true∧wd (Go.Lib.cut l [37,115]).1=true∧wd (Go.Lib.cut l [37,115]).2.1=true
def K2 (l:List UInt8):Prop:=(Go.Lib.cut l [47]).2.2=true∧(Go.Lib.cut l [47]).1≠[]∧(Go.Lib.cut l [47]).2.1≠[]∧wd (Go.Lib.cut l [47]).1=true∧wd (Go.Lib.cut l [47]).2.1=true
theorem kind_iff (s:ByteArray):(cutF s).1≠0↔s.data.toList=[37,122]∨K1 s.data.toList∨K2 s.data.toList∨(s.data.toList≠[]∧wd s.data.toList=true):=by
 have e:s.toList=s.data.toList:=ByteArray.toList_eq s;have ew:wordB s=wd s.data.toList:=rfl;unfold cutF K1 K2;simp only [e,ew]
 by_cases h0:s.data.toList=[37,122]
 ·rw [if_pos h0];simp [h0]
 ·rw [if_neg h0]
  split
  ·rename_i h;exact ⟨fun _=>.inr (.inl h),fun _=>by simp⟩
  ·rename_i h1
   split
   ·rename_i h;exact ⟨fun _=>.inr (.inr (.inl h)),fun _=>by simp⟩
   ·rename_i h2
    split
    ·rename_i h;exact ⟨fun _=>.inr (.inr (.inr h)),fun _=>by simp⟩
    ·rename_i h3;refine ⟨fun h=>absurd rfl h,fun h=> ?_⟩;rcases h with h|h|h|h
     ·exact absurd h h0
     ·exact absurd h h1
     ·exact absurd h h2
     ·exact absurd h h3
theorem kind_law (s:ByteArray) {p q:Int} (hp:FindIs s.data.toList 37 p) (hq:FindIs s.data.toList 47 q):(cutF s).1≠0↔allow s.data.toList=true∧okR s.data.toList p q=true:=by
 rw [kind_iff];generalize s.data.toList=l at *
 constructor
 ·rintro (h|h|h|⟨h1,h2⟩)
  ·subst h;exact ⟨by decide +kernel,by unfold okR;simp⟩
  ·obtain ⟨h1,h2,h3⟩:=h;have e:=cut_is h1;generalize (Go.Lib.cut l [37,115]).1=a at *;generalize (Go.Lib.cut l [37,115]).2.1=b at *;have e':l=a++37 :: (115 :: b):=by rw [e];simp
   have hb:∀ j:Nat,(115 :: b:List UInt8)[j]? ≠some 37:=by
    have:=no_in (a:=[]) (r:=b) (c:=37) (d:=115) (by decide) (by simp) (wd_not h3 not37)
    simpa using this
   have hb2:∀ j:Nat,(115 :: b:List UInt8)[j]? ≠some 47:=by
    have:=no_in (a:=[]) (r:=b) (c:=47) (d:=115) (by decide) (by simp) (wd_not h3 not47)
    simpa using this
   have po:=pos_one (wd_not h2 not37) hb;rw [← e'] at po;have ep:=find_one hp po.1 po.2;have n47:=no_in (a:=a) (r:=115 :: b) (c:=47) (d:=37) (by decide) (wd_not h2 not47) hb2;rw [← e'] at n47;have eq':=find_none hq n47;refine ⟨?_,?_⟩
   ·rw [e,allow_app,allow_app,allow_of_wd h2,allow_of_wd h3];decide +kernel
   ·unfold okR;rw [ep,eq'];have hl:l.length=a.length+b.length+2:=by rw [e'];simp;omega
    have hat:l[a.length+1]? =some 115:=by rw [e'];simp
    simp [hat,hl];omega
  ·obtain ⟨h1,h2,h3,h4,h5⟩:=h;have e:=cut_is h1;generalize (Go.Lib.cut l [47]).1=a at *;generalize (Go.Lib.cut l [47]).2.1=b at *;have e':l=a++47 :: b:=by rw [e];simp
   have po:=pos_one (wd_not h4 not47) (wd_not h5 not47);rw [← e'] at po;have eq':=find_one hq po.1 po.2;have n37:=no_in (a:=a) (r:=b) (c:=37) (d:=47) (by decide) (wd_not h4 not37) (wd_not h5 not37);rw [← e'] at n37;have ep:=find_none hp n37;refine ⟨?_,?_⟩
   ·rw [e,allow_app,allow_app,allow_of_wd h4,allow_of_wd h5];decide +kernel
   ·have la:=List.length_pos_iff.2 h2;have lb:=List.length_pos_iff.2 h3;have hl:l.length=a.length+b.length+1:=by rw [e'];simp;omega
    unfold okR;rw [ep,eq',hl];simp only [Bool.or_eq_true,Bool.and_eq_true,decide_eq_true_eq]
    left;right
    refine ⟨⟨trivial,?_⟩,?_⟩<;>omega
  ·have ep:=find_none hp (wd_not h2 not37);have eq':=find_none hq (wd_not h2 not47);refine ⟨allow_of_wd h2,?_⟩;have la:=List.length_pos_iff.2 h1;unfold okR;rw [ep,eq'];simp only [Bool.or_eq_true,Bool.and_eq_true,decide_eq_true_eq]
   left;left;left
   exact ⟨⟨la,trivial⟩,trivial⟩
 ·rintro ⟨ha,hk⟩;unfold okR at hk;simp only [Bool.or_eq_true,Bool.and_eq_true,decide_eq_true_eq] at hk;have noOf:∀ {c:UInt8} {r:Int},FindIs l c r→r= -1→∀ j:Nat,l[j]? ≠some c:=by
   intro c r h hr;rcases h with ⟨_,h⟩|⟨h,_⟩|⟨i,h,_⟩
   ·exact h
   ·omega
   ·omega
  rcases hk with ((⟨⟨h1,h2⟩,h3⟩|⟨⟨⟨h1,h2⟩,h3⟩,h4⟩)|⟨⟨h1,h2⟩,h3⟩)|h
  ·exact .inr (.inr (.inr ⟨List.length_pos_iff.1 h1,wd_of ha (noOf hp h2) (noOf hq h3)⟩))
  ·rcases hp with ⟨h,_⟩|⟨h,_⟩|⟨i,h,hi,hu⟩
   ·omega
   ·omega
   ·subst h;simp only [Int.toNat_natCast] at h4;have n47:=noOf hq h2;have e1:=split_at hi;have e2:l.drop (i+1)=115 :: l.drop (i+2):=by
     obtain ⟨hl,h5⟩:=List.getElem?_eq_some_iff.1 h4;rw [List.drop_eq_getElem_cons hl,h5]
    have wa:wd (l.take i)=true:=wd_of (allow_sub ha i).1 (take_no hu) (sub_no n47 i).1;have wb:wd (l.drop (i+2))=true:=wd_of (allow_sub ha (i+2)).2 (drop_no hu _ (by omega)) (sub_no n47 (i+2)).2;have e3:l=l.take i++[37,115]++l.drop (i+2):=by
     conv=>lhs;rw [e1,e2]
     simp
    refine .inr (.inl ?_);have hc:=cut_at (a:=l.take i) (b:=l.drop (i+2)) (sep:=[37,115]) (c:=37) (t:=[115]) rfl not37 wa;rw [← e3] at hc;unfold K1;rw [hc];exact ⟨rfl,wa,wb⟩
  ·rcases hq with ⟨h,_⟩|⟨h,_⟩|⟨i,h,hi,hu⟩
   ·omega
   ·omega
   ·subst h;have n37:=noOf hp h1;have e1:=split_at hi;have wa:wd (l.take i)=true:=wd_of (allow_sub ha i).1 (sub_no n37 i).1 (take_no hu);have wb:wd (l.drop (i+1))=true:=wd_of (allow_sub ha (i+1)).2 (sub_no n37 (i+1)).2 (drop_no hu _ (by omega));have e3:l=l.take i++[47]++l.drop (i+1):=by
     conv=>lhs;rw [e1]
     simp
    refine .inr (.inr (.inl ?_));have hc:=cut_at (a:=l.take i) (b:=l.drop (i+1)) (sep:=[47]) (c:=47) (t:=[]) rfl not47 wa;rw [← e3] at hc;unfold K2;rw [hc];have hl:i<l.length:=(List.getElem?_eq_some_iff.1 hi).1;refine ⟨rfl,?_,?_,wa,wb⟩
    ·intro h;have:=congrArg List.length h;rw [List.length_take,List.length_nil] at this;omega
    ·intro h;have:=congrArg List.length h;rw [List.length_drop,List.length_nil] at this;omega
  ·exact .inl h
end Fmt
end
section
open Go.RowKit NB
namespace RNum
set_option maxHeartbeats 400000 in
theorem Div (a b:Int) (h0: -9223372036854775808<a) (h1:a≤9223372036854775807) (h2:1≤b) (h3:b≤4611686018427387904) (w:World):
 Calls prog 189 #[.int .i64 a,.int .i64 b] w fun e w'=>e=.returned (.tuple #[.int .i64 (a/b),.int .i64 (a%b),.int .i64 0])∧w=w':=by
 have hr:=Int.emod_nonneg a (show b≠0 by omega);have hr2:=Int.emod_lt_of_pos a (show 0<b by omega);have hg:(a== -9223372036854775808)=false:=by simp;omega
 have hb0:(b==0)=false:=by simp;omega
 have hb1:(b== -1)=false:=by simp;omega
 have db:decide (b<0)=false:=by simp;omega
 have dm:decide (a%b<0)=false:=by simp;omega
 by_cases ha:0≤a
 ·have hq:=Int.ediv_nonneg ha (show 0≤b by omega);have hq2:a/b≤a:=Int.ediv_le_self _ ha
  by_cases hz:a%b=0
  ·have hzz:(a%b==0)=true:=by simp [hz]
   go_enter func189,ntmps189;go_wp2
   go_ret3
   exact ⟨rfl,rfl⟩
  ·have hzz:(a%b==0)=false:=by simp [hz]
   have hzn:(a%b != 0)=true:=by simp [hz]
   go_enter func189,ntmps189;go_wp2
   go_ret3
   exact ⟨rfl,rfl⟩
 ·by_cases hz:a%b=0
  ·have e1:=Pl.tdiv_ex a b hz;have e2:=Pl.tmod_ex a b hz;rw [hz, ←e1];have hq: -9223372036854775808≤a.tdiv b∧a.tdiv b≤0:=by
    rw [e1];have h4:b*(a/b)+a%b=a:=Int.mul_ediv_add_emod a b;rw [hz] at h4;have h5:a/b<0:=Int.ediv_neg_of_neg_of_pos (by omega) (by omega);have h6:(b-1)*(a/b)≤0:=Int.mul_nonpos_of_nonneg_of_nonpos (by omega) (by omega);have h7:(b-1)*(a/b)=b*(a/b)-a/b:=by rw [Int.sub_mul,Int.one_mul]
    omega
   obtain ⟨hq1,hq2⟩:=hq;have hm:a.tmod b=0:=e2;have Hz:=kj hz;have E1:=kj e1;clear hz e1 e2;go_enter func189,ntmps189;go_wp2
   all_goals go_ret3
   all_goals exact ⟨rfl,rfl⟩
  ·have e1:=Pl.tdiv_neg' a b (by omega) (by omega) hz;have e2:=Pl.tmod_neg' a b (by omega) (by omega) hz;have h4:b*(a/b)+a%b=a:=Int.mul_ediv_add_emod a b;have h5:a/b<0:=Int.ediv_neg_of_neg_of_pos (by omega) (by omega);have h6:(b-1)*(a/b+1)≤0:=Int.mul_nonpos_of_nonneg_of_nonpos (by omega) (by omega);have h7:(b-1)*(a/b+1)=b*(a/b)-a/b+b-1:=by rw [Int.sub_mul,Int.one_mul,Int.mul_add];omega
   have q1: -9223372036854775808≤a.tdiv b-1:=by rw [e1];omega
   have q2:a.tdiv b≤0:=by rw [e1];omega
   have r1:a.tmod b<0:=by rw [e2];omega
   have r2: -4611686018427387904≤a.tmod b:=by rw [e2];omega
   have hzz:(a.tmod b==0)=false:=by simp;omega
   have hzn:(a.tmod b != 0)=true:=by simp;omega
   have dt:decide (a.tmod b<0)=true:=by simp;omega
   rw [show a/b=a.tdiv b-1 by omega,show a%b=a.tmod b+b by omega];have E1:=kj e1;have E2:=kj e2;have H4:=kj h4;have H7:=kj h7;have HZ:=kj hz;clear e1 e2 h4 h5 h6 h7 hz hr hr2;go_enter func189,ntmps189;go_wp2
   all_goals go_ret3
   all_goals exact ⟨rfl,rfl⟩
theorem Floor (a b:Int) (h0: -9223372036854775808<a) (h1:a≤9223372036854775807) (h2:1≤b) (h3:b≤4611686018427387904) (w:World):
 Calls prog 128 #[.int .i64 a,.int .i64 b] w fun e w'=>e=.returned (.int .i64 (a/b))∧w=w':=by
 have cd:=Div a b h0 h1 h2 h3;generalize a/b=q at *;generalize a%b=r at *;have Cd:=kj cd;clear cd;go_enter func128,ntmps128
 go_wp2_with (go_at_call 189;(with_reducible refine (Cd.out _).mono ?_);rintro e w' ⟨rfl,rfl⟩)
 go_ret;exact ⟨rfl,rfl⟩
theorem Rest (a b:Int) (h0: -9223372036854775808<a) (h1:a≤9223372036854775807) (h2:1≤b) (h3:b≤4611686018427387904) (w:World):
 Calls prog 129 #[.int .i64 a,.int .i64 b] w fun e w'=>e=.returned (.int .i64 (a%b))∧w=w':=by
 have cd:=Div a b h0 h1 h2 h3;generalize a/b=q at *;generalize a%b=r at *;have Cd:=kj cd;clear cd;go_enter func129,ntmps129
 go_wp2_with (go_at_call 189;(with_reducible refine (Cd.out _).mono ?_);rintro e w' ⟨rfl,rfl⟩)
 go_ret;exact ⟨rfl,rfl⟩
end RNum
end
section
open Go.RowKit NB
namespace RCiv
theorem tmod_beq (y k:Int) (_hk:0<k):(y.tmod k==0)=decide (y%k=0):=by
 by_cases h:y%k=0
 ·simp [h,Pl.tmod_ex y k h]
 ·have:y.tmod k≠0:=fun h'=>h (Int.emod_eq_zero_of_dvd (Int.dvd_of_tmod_eq_zero h'));simp [h,this]
theorem Leap (y:Int) (w:World):Calls prog 244 #[.int .i64 y] w fun e w'=>e=.returned (.bool (Cal.leap y))∧w=w':=by
 have e4:=tmod_beq y 4 (by omega);have e100:=tmod_beq y 100 (by omega);have e400:=tmod_beq y 400 (by omega);unfold Cal.leap;cases h4:decide (y%4=0)<;>cases h100:decide (y%100=0)<;>cases h400:decide (y%400=0)
 all_goals first
  |(exfalso;have a1:=of_decide_eq_false h4;have a2:=of_decide_eq_true h400;omega)
  |(
   rw [h4] at e4;rw [h100] at e100;rw [h400] at e400;have n100:(y.tmod 100 != 0)= !(y.tmod 100==0):=rfl;rw [e100] at n100;clear h4 h100 h400;simp only [Bool.not_true,Bool.not_false,Bool.and_true,Bool.and_false,Bool.or_true,Bool.or_false] at n100 ⊢;go_enter func244,ntmps244;go_wp2;go_ret;exact ⟨rfl,rfl⟩)
set_option maxHeartbeats 1600000 in
theorem Len (y m:Int) (w:World):Calls prog 188 #[.int .i64 y,.int .i64 m] w fun e w'=>e=.returned (.int .i64 (Cal.len y m))∧Below w.heap.size w w':=by
 by_cases h:m<1∨12<m
 ·rw [Cal.len_out y m h];rcases h with h|h
  all_goals
   go_enter func188,ntmps188;go_wp2;go_ret;exact ⟨rfl,bcq⟩
 ·by_cases h2:m=2
  ·subst h2;clear h;cases hl:Cal.leap y
   all_goals
    have e:Cal.len y 2=if Cal.leap y then 29 else 28:=by
     unfold Cal.len Cal.lp;rw [if_neg (by decide),if_neg (by decide),if_pos rfl]
     split<;>rfl
    rw [e,hl];clear e;have Hl:=kj hl;clear hl;go_enter func188,ntmps188
    go_wp2_with (go_at_call 244;refine (Leap y _).mono ?_;rw [Hl.out];rintro e w' ⟨rfl,rfl⟩)
    go_ret;exact ⟨rfl,bcq⟩
  ·rcases Cal.months (m:=m) (by omega) (by omega) with rfl|rfl|rfl|rfl|rfl|rfl|rfl|rfl|rfl|rfl|rfl|rfl
   all_goals
    clear h
    first
     |(exfalso;exact h2 rfl)
     |(clear h2
       go_enter func188,ntmps188;go_wp2;go_ret;exact ⟨rfl,bcq⟩)
theorem leaps (y:Int) (h0: -100000≤y) (h1:y≤100000) (w:World):Calls prog 130 #[.int .i64 y] w fun e w'=>e=.returned (.int .i64 (Cal.leaps y))∧w=w':=by
 have c4:=RNum.Floor y 4 (by omega) (by omega) (by omega) (by omega);have c100:=RNum.Floor y 100 (by omega) (by omega) (by omega) (by omega);have c400:=RNum.Floor y 400 (by omega) (by omega) (by omega) (by omega);unfold Cal.leaps;have C4:=kj c4;have C100:=kj c100;have C400:=kj c400;clear c4 c100 c400;go_enter func130,ntmps130
 go_wp2_with (first|(go_at_call 128;(with_reducible refine (C4.out _).mono ?_);rintro e w' ⟨rfl,rfl⟩)|(go_at_call 128;(with_reducible refine (C100.out _).mono ?_);rintro e w' ⟨rfl,rfl⟩)|(go_at_call 128;(with_reducible refine (C400.out _).mono ?_);rintro e w' ⟨rfl,rfl⟩))
 go_ret;exact ⟨rfl,rfl⟩
theorem Ahead (y:Int) (h0: -50000≤y) (h1:y≤50000) (w:World):Calls prog 74 #[.int .i64 y] w fun e w'=>e=.returned (.int .i64 (Cal.ahead y))∧w=w':=by
 have c1:=leaps (y-1) (by omega) (by omega);have c2:=leaps 1969 (by omega) (by omega);unfold Cal.ahead;have b1: -100000≤Cal.leaps (y-1)∧Cal.leaps (y-1)≤100000:=by unfold Cal.leaps;omega
 have b2: -100000≤Cal.leaps 1969∧Cal.leaps 1969≤100000:=by unfold Cal.leaps;omega
 have C1:=kj c1;have C2:=kj c2;clear c1 c2;go_enter func74,ntmps74
 go_wp2_with (first|(go_at_call 130;(with_reducible refine (C1.out _).mono ?_);rintro e w' ⟨rfl,rfl⟩)|(go_at_call 130;(with_reducible refine (C2.out _).mono ?_);rintro e w' ⟨rfl,rfl⟩))
 go_ret;exact ⟨rfl,rfl⟩
end RCiv
end
section
open Go.RowKit NB
namespace RCiv
set_option maxHeartbeats 800000 in
theorem Right (y m d:Int) (w:World):Calls prog 324 #[.agg #[.int .i64 y,.int .i64 m,.int .i64 d]] w fun e w'=>e=.returned (.bool (Civ.right y m d))∧Below w.heap.size w w':=by
 unfold Civ.right
 by_cases h1: -40000≤y
 case neg=>
  have d1:decide (-40000≤y)=false:=by simpa using h1
  rw [d1];go_enter func324,ntmps324;go_wp2
  go_quiet (fail)
  go_wp2;go_ret;exact ⟨rfl,bcq⟩
 case pos=>
  by_cases h2:y≤40000
  case neg=>
   have d1:decide (y≤40000)=false:=by simpa using h2
   rw [d1];go_enter func324,ntmps324;go_wp2
   go_quiet (fail)
   go_wp2;go_ret;exact ⟨by simp,bcq⟩
  case pos=>
   by_cases h3:1≤d
   case neg=>
    have d1:decide (1≤d)=false:=by simpa using h3
    rw [d1];go_enter func324,ntmps324;go_wp2
    go_quiet (fail)
    go_wp2;go_ret;exact ⟨by simp,bcq⟩
   case pos=>
    have hf:(decide (-40000≤y)&&decide (y≤40000)&&decide (1≤d)&&decide (d≤Cal.len y m))=decide (d≤Cal.len y m):=by simp [h1,h2,h3]
    rw [hf];clear hf;go_enter func324,ntmps324;go_wp2
    (refine region_later (by kernel_rfl) (by kernel_rfl) ?_;(repeat (go_big_quiet_step (first|(go_at_call 188;rename_i xL;apply calls_later xL (Nat.le_refl _);exact (Len _ _ _)))));refine wpQuiet_nil ?_;rintro _ ⟨⟨u1,hu1⟩,rfl⟩)
    go_wp2;go_ret;exact ⟨rfl,bcq⟩
theorem cum_one (y:Int):Cal.cum y 1=0:=by unfold Cal.cum;simp
set_option maxHeartbeats 1600000 in
theorem YearDay (y m d:Int) (w:World):Calls prog 302 #[.agg #[.int .i64 y,.int .i64 m,.int .i64 d]] w fun e w'=>
 e=.returned (if Civ.right y m d then .tuple #[.int .i64 (Cal.cum y m+d),.int .i64 0] else .tuple #[.int .i64 0,.int .i64 1])∧Below w.heap.size w w':=by
 have cr:=Right y m d;cases hr:Civ.right y m d
 ·rw [hr] at cr;have Cr:=kj cr;clear cr hr;rw [if_neg (by decide)];go_enter func302,ntmps302
  go_wp2_with (go_at_call 324;(with_reducible refine (Cr.out _).mono ?_);rintro e w1 ⟨rfl,hb1⟩;obtain ⟨hc1_0,hf1_0,hz1_0⟩:=bcs hb1 (w.heap.size))
  go_ret2;exact ⟨rfl,bcq⟩
 ·rw [hr] at cr;obtain ⟨y0,y1,m0,m1,d0,d1⟩:=Civ.right_spec hr;have lb:=Cal.len_le y m;have Cr:=kj cr;clear cr hr;rw [if_pos rfl];go_enter func302,ntmps302
  go_wp2_with (go_at_call 324;(with_reducible refine (Cr.out _).mono ?_);rintro e w1 ⟨rfl,hb1⟩;obtain ⟨hc1_0,hf1_0,hz1_0⟩:=bcs hb1 (w.heap.size))
  have hB:Below w.heap.size w w1:=bcq;have bx:Box w1 w.heap.size #[.int .i64 y,.int .i64 m,.int .i64 d] 69:=Box.later (Box.new w _ _) hb1;clear hc1_0 hf1_0 hb1
  go_loopw [4,5] (fun s i wr=>∃ k:Int,s=.int .i64 (Cal.cum y k+d)∧i=.int .i64 k∧1≤k∧k≤m∧(0≤Cal.cum y k∧Cal.cum y k≤366)∧Below w.heap.size w wr∧Box wr w.heap.size #[.int .i64 y,.int .i64 m,.int .i64 d] 69) (fun _ i _=>(m-intOf i).toNat)
  case atStart=>exact ⟨1,by rw [cum_one,Int.zero_add],rfl,by omega,by omega,by rw [cum_one];omega,hB,bx⟩
  case round=>
   obtain ⟨k,rfl,rfl,hk1,hkm,hcb,hbel,hbx⟩:=hrel;have u0:=hbx.lt;have f0:=hbx.cell
   by_cases hlt:k<m
   ·have hcs:=Cal.cum_succ y k (by omega) (by omega);have hcb1:=Cal.cum_bd y (k+1) (by omega) (by omega);have hl0:=Cal.len_le y (k+1);have hlp:=Cal.lp_01 y;have hlk:=Cal.len_le y k;have cl:=Len y k;generalize Cal.len y k=lk at *;generalize Cal.cum y k=ck at *;have Hcs:=kj hcs;have Cl:=kj cl;have Hcb1:0≤Cal.cum y (k+1)∧Cal.cum y (k+1)≤366:=by omega
    clear hcs cl hcb1 hl0 hlp
    go_wp2_with (go_at_call 188;(with_reducible refine (Cl.out _).mono ?_);rintro e w2 ⟨rfl,hb2⟩;obtain ⟨_,_,_⟩:=bcs hb2 (w.heap.size))
    go_roundw
    case rel=>exact ⟨k+1,by rw [Hcs.out];go_num,rfl,by omega,by omega,Hcb1,bcq,bxq⟩
    case measure=>simp [intOf];omega
   ·obtain rfl:k=m:=by omega
    go_wp2;go_ret2;exact ⟨rfl,bcq⟩
set_option maxHeartbeats 1600000 in
theorem Days (y m d:Int) (w:World):Calls prog 286 #[.agg #[.int .i64 y,.int .i64 m,.int .i64 d]] w fun e w'=>
 e=.returned (if Civ.right y m d then .tuple #[.int .i64 (Cal.days y m d),.int .i64 0] else .tuple #[.int .i64 0,.int .i64 1])∧Below w.heap.size w w':=by
 have cy:=YearDay y m d;cases hr:Civ.right y m d
 ·rw [hr,if_neg (by decide)] at cy;rw [if_neg (by decide)];have Cy:=kj cy;clear cy hr;go_enter func286,ntmps286
  go_wp2_with (go_at_call 302;(with_reducible refine (Cy.out _).mono ?_);rintro e w1 ⟨rfl,hb1⟩;obtain ⟨hc1_0,hf1_0,hz1_0⟩:=bcs hb1 (w.heap.size))
  go_ret2;exact ⟨rfl,bcq⟩
 ·rw [hr,if_pos rfl] at cy;rw [if_pos rfl];obtain ⟨y0,y1,m0,m1,d0,d1⟩:=Civ.right_spec hr;have ca:=Ahead y (by omega) (by omega);have ab:=Cal.ahead_bd y (by omega) (by omega);have cb:=Cal.cum_bd y m m0 m1;have lb:=Cal.len_le y m;have lp:=Cal.lp_01 y;unfold Cal.days;rw [Int.add_assoc (Cal.ahead y)];generalize Cal.ahead y=a at *;have cd0:0≤Cal.cum y m+d:=by omega
  have cd1:Cal.cum y m+d≤400:=by omega
  generalize Cal.cum y m+d=c at *;have Cy:=kj cy;have Ca:=kj ca;clear cy ca hr;go_enter func286,ntmps286
  go_wp2_with (first|(go_at_call 302;(with_reducible refine (Cy.out _).mono ?_);rintro e w1 ⟨rfl,hb1⟩;obtain ⟨hc1_0,hf1_0,hz1_0⟩:=bcs hb1 (w.heap.size))|(go_at_call 74;(with_reducible refine (Ca.out _).mono ?_);rintro e w' ⟨rfl,rfl⟩))
  go_ret2;exact ⟨rfl,bcq⟩
theorem Weekday (n:Int) (h0: -9000000000000000000≤n) (h1:n≤9000000000000000000) (w:World):
 Calls prog 287 #[.int .i64 n] w fun e w'=>e=.returned (.int .i64 ((n+4)%7))∧w=w':=by
 have cr:=RNum.Rest n 7 (by omega) (by omega) (by omega) (by omega);rw [show (n+4)%7=(n%7+4)%7 by omega];have r0:0≤n%7:=by omega
 have r1:n%7≤6:=by omega
 generalize n%7=r at *;have Cr:=kj cr;clear cr;go_enter func287,ntmps287
 go_wp2_with (go_at_call 129;(with_reducible refine (Cr.out _).mono ?_);rintro e w' ⟨rfl,rfl⟩)
 go_ret;exact ⟨rfl,rfl⟩
def okN (n:Int):Bool:=decide (Cal.ahead (-40000)≤n)&&decide (n<Cal.ahead 40001)
theorem ahead_lo:Cal.ahead (-40000)= -15329228:=by decide +kernel
theorem ahead_hi:Cal.ahead 40001=13890538:=by decide +kernel
theorem start_le (n:Int) (h0: -15329228≤n) (h1:n<13890538): -42000≤1970+n/366∧1970+n/366≤40000:=by omega
theorem dY_bd (n:Int) (h0: -15329228≤n) (h1:n<13890538): -40000≤Yr.dY n∧Yr.dY n≤40000:=by
 have hy:=Yr.year_of n;have e1:=ahead_lo;have e2:=ahead_hi
 constructor
 ·rcases (by omega: -40000≤Yr.dY n∨Yr.dY n+1≤ -40000) with h|h
  ·exact h
  ·have:=Cal.ahead_mono h;omega
 ·rcases (by omega:Yr.dY n≤40000∨40001≤Yr.dY n) with h|h
  ·exact h
  ·have:=Cal.ahead_mono h;omega
theorem ahead_lt_iff (n y:Int):Cal.ahead y≤n↔y≤Yr.dY n:=by
 have hy:=Yr.year_of n
 constructor
 ·intro h;rcases (by omega:y≤Yr.dY n∨Yr.dY n+1≤y) with h'|h'
  ·exact h'
  ·have:=Cal.ahead_mono h';omega
 ·intro h;have:=Cal.ahead_mono h;omega
end RCiv
end
end Go.Proofs.YtgmfojgnjdpofaaGreatDoor
