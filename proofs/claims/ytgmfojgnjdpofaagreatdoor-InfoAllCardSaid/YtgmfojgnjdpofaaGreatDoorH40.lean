import Derived.Test.YtgmfojgnjdpofaaGreatDoorH10
import Derived.Test.YtgmfojgnjdpofaaGreatDoorH15
import Derived.Test.YtgmfojgnjdpofaaGreatDoorH3
import Derived.Test.YtgmfojgnjdpofaaGreatDoorH38
import Derived.Test.YtgmfojgnjdpofaaGreatDoorH39
namespace Go.Proofs.YtgmfojgnjdpofaaGreatDoor
open Go.Proofs.Tryz
section
open Go.RowKit NB
namespace R27
theorem wLow_eq (r:RuleV):Apt.wLow r=(Cal.cum 2001 r.month+Day.winLow r.kind r.day r.month-1)*86400+r.sec:=by unfold Apt.wLow;omega
theorem wHigh_eq (r:RuleV):Apt.wHigh r=(Cal.cum 2001 r.month+Day.winHigh r.kind r.day r.month-1)*86400+r.sec:=by unfold Apt.wHigh;omega
def winV (r:RuleV):Value:=if Rul.right r then .tuple #[.int .i64 (Apt.wLow r),.int .i64 (Apt.wHigh r),.int .i64 0] else .tuple #[.int .i64 0,.int .i64 0,.int .i64 4]
set_option maxHeartbeats 3200000 in
theorem Window (r:RuleV) (hr:r.Fit) (w:World):Calls prog 172 #[.agg r.cells.toArray] w fun e w'=>e=.returned (winV r)∧Below w.heap.size w w':=by
 have cr:=RRule.Right r hr;unfold winV;cases hR:Rul.right r
 ·rw [hR] at cr;rw [if_neg (by decide)];unfold RuleV.cells at *;have Cr:=kj cr;clear cr hR;go_enter func172,ntmps172
  go_wp2_with (go_at_call 194;(with_reducible refine (Cr.out _).mono ?_);rintro e w1 ⟨rfl,hb1⟩;obtain ⟨hc1_0,hf1_0,hz1_0⟩:=bcs hb1 (w.heap.size))
  go_ret3
  exact ⟨rfl,bcq⟩
 ·rw [hR] at cr;rw [if_pos rfl,wLow_eq,wHigh_eq];obtain ⟨_,hf,⟨_,_,s0,s1⟩,_⟩:=Rul.right_spec hR;obtain ⟨m0,m1,_,_⟩:=Day.fits_spec hf;obtain ⟨l0,l1,h0,h1⟩:=Apt.win_bd hf;have cw:=RDay.Window r.kind r.week r.day r.month;rw [hf,if_pos rfl] at cw;generalize Day.winLow r.kind r.day r.month=lo at *;generalize Day.winHigh r.kind r.day r.month=hi at *;obtain ⟨M,hM⟩:∃ M,M=r.month:=⟨_,rfl⟩;have cb:0≤Cal.cum 2001 r.month∧Cal.cum 2001 r.month≤366:=by
   have:=Cal.cum_bd 2001 r.month m0 m1;have:=Cal.len_le 2001 r.month;have:=Cal.lp_01 2001;omega
  unfold RuleV.cells at *;have Cr:=kj cr;have Cw:=kj cw;have hf0:True:=trivial;clear cr hR hf cw hM M hf0;go_enter func172,ntmps172
  go_wp2_with (go_at_call 194;(with_reducible refine (Cr.out _).mono ?_);rintro e w1 ⟨rfl,hb1⟩;obtain ⟨hc1_0,hf1_0,hz1_0⟩:=bcs hb1 (w.heap.size))
  have hbx:Box w1 w.heap.size #[.string r.name,.int .i64 r.fr,.int .i64 r.to,.int .i64 r.month,.int .i64 r.kind,.int .i64 r.week,.int .i64 r.day,.int .i64 r.sec,.int .i64 r.base,.int .i64 r.save,.string r.letter] 57:=bxq;have hB:Below w.heap.size w w1:=bcq;clear hb1 hc1_0 hf1_0
  go_loopw [5,6] (fun s i wr=>∃ k:Int,s=.int .i64 (Cal.cum 2001 k)∧i=.int .i64 k∧1≤k∧k≤r.month∧(0≤Cal.cum 2001 k∧Cal.cum 2001 k≤366)∧Below w.heap.size w wr∧Box wr w.heap.size #[.string r.name,.int .i64 r.fr,.int .i64 r.to,.int .i64 r.month,.int .i64 r.kind,.int .i64 r.week,.int .i64 r.day,.int .i64 r.sec,.int .i64 r.base,.int .i64 r.save,.string r.letter] 57) (fun _ i _=>(r.month-intOf i).toNat)
  case atStart=>exact ⟨1,by rw [RCiv.cum_one],rfl,by omega,by omega,by rw [RCiv.cum_one];omega,hB,hbx⟩
  case round=>
   obtain ⟨k,rfl,rfl,hk1,hkm,hcb,hbel,hbx⟩:=hrel;have u0:=hbx.lt;have f0:=hbx.cell
   by_cases hlt:k<r.month
   ·have hcs:=Cal.cum_succ 2001 k (by omega) (by omega);have hcb1:=Cal.cum_bd 2001 (k+1) (by omega) (by omega);have hl0:=Cal.len_le 2001 (k+1);have hlp:=Cal.lp_01 2001;have hlk:=Cal.len_le 2001 k;have cl:=RCiv.Len 2001 k;generalize Cal.len 2001 k=lk at *;generalize Cal.cum 2001 k=ck at *;have Hcs:=kj hcs;have Cl:=kj cl;have Hcb1:0≤Cal.cum 2001 (k+1)∧Cal.cum 2001 (k+1)≤366:=by omega
    clear hcs cl hcb1 hl0 hlp
    go_wp2_with (go_at_call 188;(with_reducible refine (Cl.out _).mono ?_);rintro e w2 ⟨rfl,hb2⟩;obtain ⟨hc2_0,hf2_0,hz2_0⟩:=bcs hb2 (w.heap.size))
    go_roundw
    case rel=>exact ⟨k+1,by rw [Hcs.out],rfl,by omega,by omega,Hcb1,bcq,bxq⟩
    case measure=>simp [intOf];omega
   ·have hkk:k=r.month:=by omega
    subst hkk
    go_wp2_with (go_at_call 235;(with_reducible refine (Cw.out _).mono ?_);rintro e w2 ⟨rfl,hb2⟩;obtain ⟨hc2_0,hf2_0,hz2_0⟩:=bcs hb2 (w.heap.size))
    go_quiet (fail)
    go_wp2
    go_ret3
    exact ⟨rfl,bcq⟩
def folB (a b:RuleV):Bool:=decide (max (a.fr+1) b.fr≤min (a.to+1) b.to)
theorem follows (a b:RuleV) (ha: -32767≤a.fr∧a.fr≤a.to∧a.to≤32767) (w:World):Calls prog 173 #[.agg a.cells.toArray,.agg b.cells.toArray] w fun e w'=>e=.returned (.bool (folB a b))∧Below w.heap.size w w':=by
 unfold folB RuleV.cells;go_enter func173,ntmps173;go_wp2;go_ret;exact ⟨rfl,bcq⟩
theorem fol_meet {a b:RuleV} (ha:a.fr≤a.to) (hb:b.fr≤b.to):folB a b=Apt.meetB a b 1:=by
 unfold folB Apt.meetB;rw [Bool.eq_iff_iff];simp only [decide_eq_true_eq,Bool.and_eq_true];omega
def togB (a b:RuleV):Bool:=decide (max a.fr b.fr≤min a.to b.to)
theorem tog_meet {a b:RuleV} (ha:a.fr≤a.to) (hb:b.fr≤b.to):togB a b=Apt.meetB a b 0:=by
 unfold togB Apt.meetB;rw [Bool.eq_iff_iff];simp only [decide_eq_true_eq,Bool.and_eq_true];omega
theorem near_eq {a b:RuleV} (ha:a.fr≤a.to) (hb:b.fr≤b.to):Apt.nearB a b=((togB a b&&decide (Apt.wLow b-Apt.wHigh a<345600)&&decide (Apt.wLow a-Apt.wHigh b<345600))||(folB a b&&decide (31536000+Apt.wLow b-Apt.wHigh a<345600))||(folB b a&&decide (31536000+Apt.wLow a-Apt.wHigh b<345600))):=by
 unfold Apt.nearB;rw [tog_meet ha hb,fol_meet ha hb,fol_meet hb ha];have c:∀ h l n:Int,(!Apt.clearB h l n)=decide (n+l-h<345600):=by
  intro h l n;unfold Apt.clearB;rw [Bool.eq_iff_iff];simp;omega
 rw [c,c,c,c,Int.zero_add,Int.zero_add]
set_option maxHeartbeats 6400000 in
theorem Pair (a b:RuleV) (ha:a.Fit) (hb:b.Fit) (w:World):Calls prog 112 #[.agg a.cells.toArray,.agg b.cells.toArray] w fun e w'=>e=.returned (.int .i64 (Apt.pairE a b))∧Below w.heap.size w w':=by
 have ca:=Window a ha;have cb:=Window b hb;unfold Apt.pairE;unfold winV at ca cb;cases hA:Rul.right a
 case false=>
  rw [hA] at ca;cases hB:Rul.right b
  all_goals
   rw [hB] at cb;simp only [Bool.false_eq_true,if_false,if_true,Bool.false_and,Bool.and_false] at ca cb ⊢;unfold RuleV.cells at *;have Ca:=kj ca;have Cb:=kj cb;clear ca cb hA hB;go_enter func112,ntmps112
   go_upto_region 2 with (go_at_call 172;(with_reducible refine (Ca.out _).mono ?_);rintro e w1 ⟨rfl,hb1⟩;obtain ⟨hc1_0,hf1_0,hz1_0⟩:=bcs hb1 (w.heap.size);obtain ⟨hc1_1,hf1_1,hz1_1⟩:=bcs hb1 (w.heap.size+1))
   go_wp2_with (go_at_call 172;(with_reducible refine (Cb.out _).mono ?_);rintro e w2 ⟨rfl,hb2⟩;obtain ⟨hc2_0,hf2_0,hz2_0⟩:=bcs hb2 (w.heap.size);obtain ⟨hc2_1,hf2_1,hz2_1⟩:=bcs hb2 (w.heap.size+1))
   go_ret;exact ⟨rfl,bcq⟩
 case true=>
  rw [hA] at ca;cases hB:Rul.right b
  case false=>
   rw [hB] at cb;simp only [Bool.false_eq_true,if_false,if_true,Bool.and_false] at ca cb ⊢;unfold RuleV.cells at *;have Ca:=kj ca;have Cb:=kj cb;clear ca cb hA hB;go_enter func112,ntmps112
   go_upto_region 2 with (go_at_call 172;(with_reducible refine (Ca.out _).mono ?_);rintro e w1 ⟨rfl,hb1⟩;obtain ⟨hc1_0,hf1_0,hz1_0⟩:=bcs hb1 (w.heap.size);obtain ⟨hc1_1,hf1_1,hz1_1⟩:=bcs hb1 (w.heap.size+1))
   go_wp2_with (go_at_call 172;(with_reducible refine (Cb.out _).mono ?_);rintro e w2 ⟨rfl,hb2⟩;obtain ⟨hc2_0,hf2_0,hz2_0⟩:=bcs hb2 (w.heap.size);obtain ⟨hc2_1,hf2_1,hz2_1⟩:=bcs hb2 (w.heap.size+1))
   go_ret;exact ⟨rfl,bcq⟩
  case true=>
   rw [hB] at cb;obtain ⟨ya,_⟩:=Rul.right_spec hA;obtain ⟨yb,_⟩:=Rul.right_spec hB;obtain ⟨sa1,sa2⟩:=Apt.win_sm (Apt.ok_of hA);obtain ⟨sb1,sb2⟩:=Apt.win_sm (Apt.ok_of hB);unfold Apt.Sm at sa1 sa2 sb1 sb2;have cab:=fun W=>follows a b ya W;have cba:=fun W=>follows b a yb W;have ht:togB a b=decide (max a.fr b.fr≤min a.to b.to):=rfl;obtain ⟨pe,hpe⟩:∃ pe:Int,pe=(if (true&&true)=true then (if Apt.nearB a b=true then 15 else 0) else 4):=⟨_,rfl⟩;rw [← hpe];rw [near_eq ya.2.1 yb.2.1] at hpe;generalize Apt.wLow a=la at *;generalize Apt.wHigh a=ha' at *;generalize Apt.wLow b=lb at *;generalize Apt.wHigh b=hb' at *;cases hT:togB a b<;>cases hF:folB a b<;>cases hG:folB b a
   all_goals
    rw [hT] at ht;rw [hF] at cab;rw [hG] at cba;rw [hT,hF,hG] at hpe;simp only [Bool.false_eq_true,if_false,if_true,Bool.false_and,Bool.true_and,Bool.false_or,Bool.or_false,Bool.and_self] at ca cb hpe;have ht':=ht.symm;unfold RuleV.cells at *;have Ca:=kj ca;have Cb:=kj cb;have Cab:=kj cab;have Cba:=kj cba;have Hpe:=kj hpe;clear ca cb hA hB cab cba ht hT hF hG hpe;go_enter func112,ntmps112
    go_upto_region 2 with (go_at_call 172;(with_reducible refine (Ca.out _).mono ?_);rintro e w1 ⟨rfl,hb1⟩;obtain ⟨hc1_0,hf1_0,hz1_0⟩:=bcs hb1 (w.heap.size);obtain ⟨hc1_1,hf1_1,hz1_1⟩:=bcs hb1 (w.heap.size+1))
    go_wp2_with (first|(go_at_call 172;(with_reducible refine (Cb.out _).mono ?_);rintro e w2 ⟨rfl,hb2⟩;obtain ⟨hc2_0,hf2_0,hz2_0⟩:=bcs hb2 (w.heap.size);obtain ⟨hc2_1,hf2_1,hz2_1⟩:=bcs hb2 (w.heap.size+1))|(go_at_call 173;(with_reducible refine (Cab.out _).mono ?_);rintro e w3 ⟨rfl,hb3⟩;obtain ⟨_,_,_⟩:=bcs hb3 (w.heap.size);obtain ⟨_,_,_⟩:=bcs hb3 (w.heap.size+1))|(go_at_call 173;(with_reducible refine (Cba.out _).mono ?_);rintro e w4 ⟨rfl,hb4⟩;obtain ⟨_,_,_⟩:=bcs hb4 (w.heap.size);obtain ⟨_,_,_⟩:=bcs hb4 (w.heap.size+1)))
    all_goals
     go_ret;refine ⟨ret_int ?_,bcq⟩;rw [Hpe.out]
     all_goals first
      |rfl
      |(split<;>rename_i hh<;>first|rfl|(exfalso;revert hh;simp only [Bool.or_eq_true,Bool.and_eq_true,decide_eq_true_eq];omega))
end R27
end
section
open Go.RowKit NB
namespace R27
theorem same_in {r x:RuleV} {l:List RuleV} {j:Nat} (h:l[j]? =some x) (hn:x.name=r.name):Chk.same r (l.take (j+1))=Chk.same r (l.take j)++[x]:=by
 unfold Chk.same;rw [List.take_add_one,h,List.filter_append];simp [hn]
theorem same_out {r x:RuleV} {l:List RuleV} {j:Nat} (h:l[j]? =some x) (hn:¬x.name=r.name):Chk.same r (l.take (j+1))=Chk.same r (l.take j):=by
 unfold Chk.same;rw [List.take_add_one,h,List.filter_append];simp [hn]
theorem bad_app {r:RuleV}:∀ (a c:List RuleV),Chk.firstBad r a=0→Chk.firstBad r (a++c)=Chk.firstBad r c
 | [],_,_=>rfl
 |y :: ys,c,h=>by
  unfold Chk.firstBad at h
  by_cases hy:Apt.pairE y r=0
  ·rw [if_pos hy] at h;rw [List.cons_append]
   conv=>lhs;unfold Chk.firstBad
   rw [if_pos hy];exact bad_app ys c h
  ·rw [if_neg hy] at h;exact absurd h hy
theorem bad_keep {r:RuleV}:∀ (a c:List RuleV),Chk.firstBad r a≠0→Chk.firstBad r (a++c)=Chk.firstBad r a
 | [],_,h=>absurd rfl h
 |y :: ys,c,h=>by
  unfold Chk.firstBad at h;rw [List.cons_append];unfold Chk.firstBad
  by_cases hy:Apt.pairE y r=0
  ·rw [if_pos hy] at h;rw [if_pos hy,if_pos hy];exact bad_keep ys c h
  ·rw [if_neg hy,if_neg hy]
theorem bad_one {r x:RuleV}:Chk.firstBad r [x]=Apt.pairE x r:=by
 unfold Chk.firstBad Chk.firstBad
 split
 ·rename_i h;exact h.symm
 ·rfl
def Ok (r:RuleV) (l:List RuleV) (j:Nat):Prop:=Chk.firstBad r (Chk.same r (l.take j))=0
theorem Ok.skip {r x:RuleV} {l:List RuleV} {j:Nat} (h:Ok r l j) (hx:l[j]? =some x) (hn:¬x.name=r.name):Ok r l (j+1):=by
 unfold Ok at *
 rwa [same_out hx hn]
theorem Ok.good {r x:RuleV} {l:List RuleV} {j:Nat} (h:Ok r l j) (hx:l[j]? =some x) (hn:x.name=r.name) (hp:Apt.pairE x r=0):Ok r l (j+1):=by
 unfold Ok at *;rw [same_in hx hn,bad_app _ _ h,bad_one,hp]
theorem Ok.bad {r x:RuleV} {l:List RuleV} {j k:Nat} (h:Ok r l j) (hx:l[j]? =some x) (hn:x.name=r.name) (hp:Apt.pairE x r≠0) (hj:j<k):Chk.firstBad r (Chk.same r (l.take k))=Apt.pairE x r:=by
 have h1:Chk.firstBad r (Chk.same r (l.take (j+1)))=Apt.pairE x r:=by
  rw [same_in hx hn,bad_app _ _ h,bad_one]
 have h2:l.take k=l.take (j+1)++(l.take k).drop (j+1):=by
  have:=List.take_append_drop (j+1) (l.take k);rw [List.take_take,Nat.min_eq_left (by omega)] at this;exact this.symm
 rw [h2];unfold Chk.same at h1 ⊢;rw [List.filter_append,bad_keep _ _ (by rw [h1];exact hp),h1]
def At (l:List RuleV) (k:Nat):Prop:=Chk.check l=Chk.scan (l.take k) (l.drop k) k
theorem At.next {l:List RuleV} {k:Nat} {r:RuleV} (h:At l k) (hr:l[k]? =some r) (ho:Ok r l k):At l (k+1):=by
 unfold At at *;rw [h,Chk.check_at hr];exact if_pos ho
theorem At.found {l:List RuleV} {k:Nat} {r:RuleV} {e:Int} (h:At l k) (hr:l[k]? =some r) (hb:Chk.firstBad r (Chk.same r (l.take k))=e) (hn:e≠0):Chk.check l=((k:Int),e):=by
 unfold At at h;rw [h,Chk.check_at hr,if_neg (by rw [hb];exact hn),hb]
theorem At.fin {l:List RuleV} (h:At l l.length):Chk.check l=(-1,0):=by
 unfold At at h;rw [h,List.drop_length];rfl
set_option maxHeartbeats 6400000 in
theorem Check (b off cap:Nat) (l:List RuleV) (w:World) (hc:Lies w b off 11 (l.map RuleV.cells)) (hb:b<w.heap.size) (hcap:l.length≤9223372036854775807) (hs:∀ r∈l,r.Fit):
 Calls prog 264 #[.slice (some ⟨b,off,none⟩) l.length cap] w (Chk.Post (Chk.check l) w):=by
 unfold Chk.Post;obtain ⟨n,hn⟩:∃ n,n=l.length:=⟨_,rfl⟩;rw [← hn] at hcap ⊢;have HN:=kj hn;have Hc:=kj hc;have Hs:=kj hs;clear hn hc hs;go_enter func264,ntmps264;go_wp2
 go_loopw [9] (fun i wr=>∃ k:Nat,k≤n∧i=.int .i64 k∧At l k∧Below w.heap.size w wr) (fun i _=>n-(intOf i).toNat)
 case atStart=>exact ⟨0,Nat.zero_le _,rfl,rfl,Below.refl _ _⟩
 case round=>
  obtain ⟨k,hk,rfl,hat,hbel⟩:=hrel;obtain ⟨wo,hwo⟩:∃ wo:World,wo=wr:=⟨_,rfl⟩;subst hwo
  by_cases hlt:k<n
  ·obtain ⟨r,hr⟩:∃ r,l[k]? =some r:=⟨l[k]'(by rw [← HN.out];exact hlt),by simp⟩;have hrf:=Hs.out r (List.mem_of_getElem? hr);have Hr:=kj hr;have Hbel:=kj hbel;clear hr hbel;go_wp2
   go_loopw [5] (fun i wr=>∃ j:Nat,j≤k∧i=.int .i64 j∧Ok r l j∧Below w.heap.size w wr) (fun i _=>k-(intOf i).toNat)
   case atStart=>exact ⟨0,Nat.zero_le _,rfl,rfl,Hbel.out⟩
   case round=>
    obtain ⟨j,hj,rfl,hok,hbel⟩:=hrel
    by_cases hjk:j<k
    ·obtain ⟨x,hx⟩:∃ x,l[j]? =some x:=⟨l[j]'(by rw [← HN.out];omega),by simp⟩;have hxf:=Hs.out x (List.mem_of_getElem? hx);have c (i:Nat) (y:RuleV) (hy:l[i]? =some y) (o:Nat) (v:Value) (hv:y.cells[o]? =some v):wr.cell? ⟨b,off+i*11+o,none⟩=some v:=by
      rw [hbel.cell (p:=⟨b,off+i*11+o,none⟩) hb];exact Hc.out i o _ v (by rw [List.getElem?_map,hy];rfl) hv
     have x0:=c j x hx 0 _ rfl;have x1:=c j x hx 1 _ rfl;have x2:=c j x hx 2 _ rfl;have x3:=c j x hx 3 _ rfl;have x4:=c j x hx 4 _ rfl;have x5:=c j x hx 5 _ rfl;have x6:=c j x hx 6 _ rfl;have x7:=c j x hx 7 _ rfl;have x8:=c j x hx 8 _ rfl;have x9:=c j x hx 9 _ rfl;have x10:=c j x hx 10 _ rfl;simp only [Nat.add_zero] at x0;have r0:=c k r Hr.out 0 _ rfl;have r1:=c k r Hr.out 1 _ rfl;have r2:=c k r Hr.out 2 _ rfl;have r3:=c k r Hr.out 3 _ rfl;have r4:=c k r Hr.out 4 _ rfl;have r5:=c k r Hr.out 5 _ rfl;have r6:=c k r Hr.out 6 _ rfl;have r7:=c k r Hr.out 7 _ rfl;have r8:=c k r Hr.out 8 _ rfl;have r9:=c k r Hr.out 9 _ rfl;have r10:=c k r Hr.out 10 _ rfl;simp only [Nat.add_zero] at r0;clear c;have cp:=fun W=>Pair x r hxf hrf W;unfold RuleV.cells at cp;have Hx:=kj hx;clear hx;have hjn:j<n:=by omega
     have hbw:b<wr.heap.size:=Nat.lt_of_lt_of_le hb hbel.size
     by_cases hnm:x.name=r.name
     case neg=>
      have e1:=str_ne hnm;have Hnm:=kj hnm;clear hnm cp;go_wp2
      go_quiet (fail)
      go_wp2;go_roundw
      case rel=>exact ⟨j+1,by omega,by go_num,hok.skip Hx.out Hnm.out,bcq⟩
      case measure=>simp [intOf];omega
     case pos=>
      have e1:=str_eq hnm;have Hnm:=kj hnm;clear hnm
      by_cases hp:Apt.pairE x r=0
      ·have e2:(Apt.pairE x r==0)=true:=by rw [beq_iff_eq];exact hp
       have e3:(Apt.pairE x r != 0)=false:=by rw [bne,e2];rfl
       have hnx:=hok.good Hx.out Hnm.out hp;clear hp hok;generalize Apt.pairE x r=pe at *;have Cp:=kj cp;have Hnx:=kj hnx;clear cp hnx;go_wp2
       go_quiet (fail)
       go_wp2
       (refine region_later (by kernel_rfl) (by kernel_rfl) ?_;(repeat (go_big_quiet_step (first|(go_at_call 112;rename_i xL;apply calls_later xL (Nat.le_refl _);exact (Cp.out _)))));refine wpQuiet_nil ?_;rintro _ ⟨⟨u1,hu1⟩,rfl⟩)
       go_wp2;go_roundw
       case rel=>exact ⟨j+1,by omega,by go_num,Hnx.out,bcq⟩
       case measure=>simp [intOf];omega
      ·have e2:(Apt.pairE x r==0)=false:=by rw [beq_eq_false_iff_ne];exact hp
       have e3:(Apt.pairE x r != 0)=true:=by rw [bne,e2];rfl
       have hfd:=hat.found Hr.out (hok.bad Hx.out Hnm.out hp hjk) hp;clear hp hok;generalize Apt.pairE x r=pe at *;have Cp:=kj cp;have Hfd:=kj hfd;clear cp hfd;go_wp2
       go_quiet (fail)
       go_wp2
       (refine region_later (by kernel_rfl) (by kernel_rfl) ?_;(repeat (go_big_quiet_step (first|(go_at_call 112;rename_i xL;apply calls_later xL (Nat.le_refl _);exact (Cp.out _)))));refine wpQuiet_nil ?_;rintro _ ⟨⟨u1,hu1⟩,rfl⟩)
       go_wp2;go_ret2;exact ⟨by rw [Hfd.out];rfl,bcq⟩
    ·obtain rfl:j=k:=by omega
     have hnx:=hat.next Hr.out hok;have Hnx:=kj hnx;clear hnx;go_wp2;go_roundw
     case rel=>exact ⟨j+1,by omega,by go_num,Hnx.out,hbel⟩
     case measure=>simp [intOf];omega
  ·obtain rfl:k=n:=by omega
   have hfin:Chk.check l=(-1,0):=At.fin (by rw [← HN.out];exact hat);have Hfin:=kj hfin;clear hfin;go_wp2;go_ret2;exact ⟨by rw [Hfin.out];rfl,hbel⟩
end R27
end
section
open Go.RowKit NB
namespace Chk
end Chk
namespace R27
theorem CheckE (p:Option Addr) (cap:Nat) (w:World):Calls prog 264 #[.slice p 0 cap] w (Chk.Post (Chk.check []) w):=by
 have h:Chk.check []=(-1,0):=rfl;rw [h];unfold Chk.Post;go_enter func264,ntmps264;go_wp2
 go_loopw [9] (fun i wr=>i=.int .i64 0∧Below w.heap.size w wr) (fun i _=>0)
 case atStart=>exact ⟨rfl,Below.refl _ _⟩
 case round=>
  obtain ⟨rfl,hbel⟩:=hrel;go_wp2;go_ret2;exact ⟨rfl,hbel⟩
theorem CheckH {w:World} {v:Value} {l:List RuleV} (h:Holds w v l):Calls prog 264 #[v] w fun e w'=>e=.returned (.tuple #[.int .i64 (Chk.check l).1,.int .i64 (Chk.check l).2])∧Below w.heap.size w w':=by
 rcases h.lies with ⟨p,cap,rfl,rfl⟩|⟨b,off,cap,rfl,h2,h3⟩
 ·exact CheckE p cap w
 ·exact Check b off cap l w h3 h2 h.len h.fit
end R27
end
section
open Go.RowKit NB
namespace RCk
open Ck
set_option maxRecDepth 100000 in
set_option maxHeartbeats 6400000 in
theorem era {w:World} {t:TabV} (h:HoldsT w t) {z i:Nat} {y:ZoneV} {e:EraV} (hz:t.zs[z]? =some y) (he:y.es[i]? =some e) (hr:t.rs.length≤12) (hzl:t.zs.length≤1000) (hel:y.es.length≤100000):
 Calls prog 209 #[.agg #[t.rv,t.zv,t.lv],.int .i64 z,.int .i64 i] w fun x w'=>x=.returned (.int .i64 (Ck.eraF t.rs ((t.zs.take z).map ZoneV.name) y.name y.es i e))∧Below w.heap.size w w':=by
 unfold eraF;obtain ⟨TW,hTW⟩:∃ b,b=(((t.zs.take z).map ZoneV.name).any fun a=>decide (a=y.name)):=⟨_,rfl⟩;obtain ⟨NM,hNM⟩:∃ b,b=Ck.named t.rs e.rules:=⟨_,rfl⟩;obtain ⟨U,hU⟩:∃ u,u=Unt.checkU t.rs y.es:=⟨_,rfl⟩;have hyf:=h.zf y (List.mem_of_getElem? hz);have ct:=fun (X:World) (hX:Below w.heap.size w X)=>twice (h.later hX) hz (by omega);have cn:=fun (X:World) (hX:Below w.heap.size w X)=>named (h.r.later hX) e.rules;have cu:=fun (X:World) (hX:Below w.heap.size w X)=>RUnt.Check (h.r.later hX) (hyf.later hX).e y.name hel hr;rw [← hTW] at ct ⊢;rw [← hNM] at cn ⊢;rw [← hU] at cu ⊢;clear hTW hNM hU;obtain ⟨rv,zv,lv,rs,zs,ls⟩:=t;obtain ⟨U1,U2⟩:=U;obtain ⟨yn,yv,ys⟩:=y;dsimp only at hz he hr hzl hel hyf ct cn cu ⊢;obtain ⟨pr,cr,e1⟩:=h.r.form;obtain ⟨pl,cl,e3⟩:=h.l.form;obtain ⟨pz,capz,e2,hp⟩:=h.z.pk;obtain ⟨b,off,cap,e4,hb1,hcell⟩:=hyf.e.at he;dsimp only at e1 e2 e3 e4 hp hcell;subst e1 e2 e3 e4;obtain ⟨g2,o2,rfl,hg2,d2⟩:=hp z _ hz;have x0:=d2 0 _ rfl;have x1:=d2 1 _ rfl;rw [Nat.add_zero] at x0;have k1:=hcell 1 _ rfl;have k3:=hcell 3 _ rfl;have hzn:z<zs.length:=(List.getElem?_eq_some_iff.1 hz).1;have hin:i<ys.length:=(List.getElem?_eq_some_iff.1 he).1;generalize rs.length=nr at *;generalize ls.length=nl at *;generalize zs.length=nz at *;generalize ys.length=ny at *;have CT:=kj ct;have CN:=kj cn;have CU:=kj cu;clear ct cn cu h hyf hp d2 hcell hz he;have q1:(z:Int)<(nz:Int):=by omega
 have q2:(i:Int)<(ny:Int):=by omega
 have hbT:Box ((w.alloc (.cells #[.slice pr nr cr,.slice (some ⟨g2,o2,none⟩) nz capz,.slice pl nl cl] 26)).alloc (.cells #[.string yn,.slice (some ⟨b,off,none⟩) ny cap] 66)) w.heap.size #[.slice pr nr cr,.slice (some ⟨g2,o2,none⟩) nz capz,.slice pl nl cl] 26:=(Box.new w _ _).old;have hbZ:Box ((w.alloc (.cells #[.slice pr nr cr,.slice (some ⟨g2,o2,none⟩) nz capz,.slice pl nl cl] 26)).alloc (.cells #[.string yn,.slice (some ⟨b,off,none⟩) ny cap] 66)) (w.heap.size+1) #[.string yn,.slice (some ⟨b,off,none⟩) ny cap] 66:=by
  have:=Box.new (w.alloc (.cells #[.slice pr nr cr,.slice (some ⟨g2,o2,none⟩) nz capz,.slice pl nl cl] 26)) #[.string yn,.slice (some ⟨b,off,none⟩) ny cap] 66
  simpa using this
 have s1:b<w.heap.size+1:=by omega
 have s2:b<w.heap.size+1+1:=by omega
 by_cases h1:i=0∧TW=true
 ·rw [if_pos h1];obtain ⟨rfl,rfl⟩:=h1;go_enter func209,ntmps209
  go_wp2_with (go_at_call 261;(with_reducible refine (CT.out _ ?_).mono ?_);(· exact bcq);rintro e w1 ⟨rfl,hb1⟩;obtain ⟨hc1,hf1⟩:=bcell hb1)
  go_ret;exact ⟨rfl,bcq⟩
 ·rw [if_neg h1]
  by_cases h0:i=0
  ·have hT:TW=false:=by cases TW;(· rfl);(· exact absurd ⟨h0,rfl⟩ h1)
   subst h0 hT;rw [Nat.zero_mul,Nat.add_zero] at k1 k3;clear h1
   by_cases h2:e.kind=2
   ·cases NM with
    |false=>
     rw [if_pos ⟨h2,rfl⟩];have e2:(e.kind==2)=true:=by simp [h2]
     rw [h2] at k1;go_enter func209,ntmps209
     go_wp2_with (go_at_call 261;(with_reducible refine (CT.out _ ?_).mono ?_);(· exact bcq);rintro e w1 ⟨rfl,hb1⟩;obtain ⟨hc1_0,hf1_0,hz1_0⟩:=bcs hb1 (w.heap.size);obtain ⟨hc1_1,hf1_1,hz1_1⟩:=bcs hb1 (w.heap.size+1);obtain ⟨hc1_2,hf1_2,hz1_2⟩:=bcs hb1 (b))
     (refine region_later (by kernel_rfl) (by kernel_rfl) ?_;(repeat (go_big_quiet_step (first|(go_at_call 262;rename_i xL;apply calls_later xL (Nat.le_refl _);exact (CN.out _ (by have hbx:=xL.h;exact bcq))))));refine wpQuiet_nil ?_;rintro u7 ⟨xU,eU⟩;have hu7:=xU.h;rw [← eU] at hu7;clear eU xU)
     go_wp2;go_ret;exact ⟨rfl,bcq⟩
    |true=>
     rw [if_neg (fun q=>absurd q.2 (by decide))];rw [h2] at k1
     by_cases h3:U1=((0:Nat):Int)
     ·rw [if_pos h3];subst h3;go_enter func209,ntmps209
      go_wp2_with (go_at_call 261;(with_reducible refine (CT.out _ ?_).mono ?_);(· exact bcq);rintro e w1 ⟨rfl,hb1⟩;obtain ⟨hc1_0,hf1_0,hz1_0⟩:=bcs hb1 (w.heap.size);obtain ⟨hc1_1,hf1_1,hz1_1⟩:=bcs hb1 (w.heap.size+1);obtain ⟨hc1_2,hf1_2,hz1_2⟩:=bcs hb1 (b))
      (refine region_later (by kernel_rfl) (by kernel_rfl) ?_;(repeat (go_big_quiet_step (first|(go_at_call 262;rename_i xL;apply calls_later xL (Nat.le_refl _);exact (CN.out _ (by have hbx:=xL.h;exact bcq))))));refine wpQuiet_nil ?_;rintro u7 ⟨xU,eU⟩;have hu7:=xU.h;rw [← eU] at hu7;clear eU xU)
      have cT:=Box.cell ((hbT.later hb1).later hu7);have cZ:=Box.cell ((hbZ.later hb1).later hu7)
      go_wp2_with (go_at_call 263;(with_reducible refine (CU.out _ ?_).mono ?_);(· exact bcq);rintro e w8 ⟨rfl,hb8⟩;obtain ⟨hc8,hf8⟩:=bcell hb8)
      go_ret;exact ⟨rfl,bcq⟩
     ·rw [if_neg h3];have e3:(U1==((0:Nat):Int))=false:=by simpa using h3
      go_enter func209,ntmps209
      go_wp2_with (go_at_call 261;(with_reducible refine (CT.out _ ?_).mono ?_);(· exact bcq);rintro e w1 ⟨rfl,hb1⟩;obtain ⟨hc1_0,hf1_0,hz1_0⟩:=bcs hb1 (w.heap.size);obtain ⟨hc1_1,hf1_1,hz1_1⟩:=bcs hb1 (w.heap.size+1);obtain ⟨hc1_2,hf1_2,hz1_2⟩:=bcs hb1 (b))
      (refine region_later (by kernel_rfl) (by kernel_rfl) ?_;(repeat (go_big_quiet_step (first|(go_at_call 262;rename_i xL;apply calls_later xL (Nat.le_refl _);exact (CN.out _ (by have hbx:=xL.h;exact bcq))))));refine wpQuiet_nil ?_;rintro u7 ⟨xU,eU⟩;have hu7:=xU.h;rw [← eU] at hu7;clear eU xU)
      have cT:=Box.cell ((hbT.later hb1).later hu7);have cZ:=Box.cell ((hbZ.later hb1).later hu7)
      go_wp2_with (go_at_call 263;(with_reducible refine (CU.out _ ?_).mono ?_);(· exact bcq);rintro e w8 ⟨rfl,hb8⟩;obtain ⟨hc8,hf8⟩:=bcell hb8)
      go_ret;exact ⟨rfl,bcq⟩
   ·rw [if_neg (fun q=>h2 q.1)];have e2:(e.kind==2)=false:=by simp [h2]
    by_cases h3:U1=((0:Nat):Int)
    ·rw [if_pos h3];subst h3;go_enter func209,ntmps209
     go_wp2_with (go_at_call 261;(with_reducible refine (CT.out _ ?_).mono ?_);(· exact bcq);rintro e w1 ⟨rfl,hb1⟩;obtain ⟨hc1_0,hf1_0,hz1_0⟩:=bcs hb1 (w.heap.size);obtain ⟨hc1_1,hf1_1,hz1_1⟩:=bcs hb1 (w.heap.size+1);obtain ⟨hc1_2,hf1_2,hz1_2⟩:=bcs hb1 (b))
     (refine region_later (by kernel_rfl) (by kernel_rfl) ?_;(repeat (go_big_quiet_step (first|(go_at_call 262;rename_i xL;apply calls_later xL (Nat.le_refl _);exact (CN.out _ (by have hbx:=xL.h;exact bcq))))));refine wpQuiet_nil ?_;rintro u7 ⟨xU,eU⟩;have hu7:=xU.h;rw [← eU] at hu7;clear eU xU)
     have cT:=Box.cell ((hbT.later hb1).later hu7);have cZ:=Box.cell ((hbZ.later hb1).later hu7)
     go_wp2_with (go_at_call 263;(with_reducible refine (CU.out _ ?_).mono ?_);(· exact bcq);rintro e w8 ⟨rfl,hb8⟩;obtain ⟨hc8,hf8⟩:=bcell hb8)
     go_ret;exact ⟨rfl,bcq⟩
    ·rw [if_neg h3];have e3:(U1==((0:Nat):Int))=false:=by simpa using h3
     go_enter func209,ntmps209
     go_wp2_with (go_at_call 261;(with_reducible refine (CT.out _ ?_).mono ?_);(· exact bcq);rintro e w1 ⟨rfl,hb1⟩;obtain ⟨hc1_0,hf1_0,hz1_0⟩:=bcs hb1 (w.heap.size);obtain ⟨hc1_1,hf1_1,hz1_1⟩:=bcs hb1 (w.heap.size+1);obtain ⟨hc1_2,hf1_2,hz1_2⟩:=bcs hb1 (b))
     (refine region_later (by kernel_rfl) (by kernel_rfl) ?_;(repeat (go_big_quiet_step (first|(go_at_call 262;rename_i xL;apply calls_later xL (Nat.le_refl _);exact (CN.out _ (by have hbx:=xL.h;exact bcq))))));refine wpQuiet_nil ?_;rintro u7 ⟨xU,eU⟩;have hu7:=xU.h;rw [← eU] at hu7;clear eU xU)
     have cT:=Box.cell ((hbT.later hb1).later hu7);have cZ:=Box.cell ((hbZ.later hb1).later hu7)
     go_wp2_with (go_at_call 263;(with_reducible refine (CU.out _ ?_).mono ?_);(· exact bcq);rintro e w8 ⟨rfl,hb8⟩;obtain ⟨hc8,hf8⟩:=bcell hb8)
     go_ret;exact ⟨rfl,bcq⟩
  ·have e0:((i:Int)==0)=false:=by simp;omega
   clear h1
   by_cases h2:e.kind=2
   ·cases NM with
    |false=>
     rw [if_pos ⟨h2,rfl⟩];have e2:(e.kind==2)=true:=by simp [h2]
     rw [h2] at k1;go_enter func209,ntmps209
     go_wp2_with (first|fail)
     (refine region_later (by kernel_rfl) (by kernel_rfl) ?_;(repeat (go_big_quiet_step (first|(go_at_call 262;rename_i xL;apply calls_later xL (Nat.le_refl _);exact (CN.out _ (by have hbx:=xL.h;exact bcq))))));refine wpQuiet_nil ?_;rintro u7 ⟨xU,eU⟩;have hu7:=xU.h;rw [← eU] at hu7;clear eU xU)
     go_wp2;go_ret;exact ⟨rfl,bcq⟩
    |true=>
     rw [if_neg (fun q=>absurd q.2 (by decide))];rw [h2] at k1
     by_cases h3:U1=(i:Int)
     ·rw [if_pos h3];subst h3;go_enter func209,ntmps209
      go_wp2_with (first|fail)
      (refine region_later (by kernel_rfl) (by kernel_rfl) ?_;(repeat (go_big_quiet_step (first|(go_at_call 262;rename_i xL;apply calls_later xL (Nat.le_refl _);exact (CN.out _ (by have hbx:=xL.h;exact bcq))))));refine wpQuiet_nil ?_;rintro u7 ⟨xU,eU⟩;have hu7:=xU.h;rw [← eU] at hu7;clear eU xU)
      have cT:=Box.cell (hbT.later hu7);have cZ:=Box.cell (hbZ.later hu7)
      go_wp2_with (go_at_call 263;(with_reducible refine (CU.out _ ?_).mono ?_);(· exact bcq);rintro e w8 ⟨rfl,hb8⟩;obtain ⟨hc8,hf8⟩:=bcell hb8)
      go_ret;exact ⟨rfl,bcq⟩
     ·rw [if_neg h3];have e3:(U1==(i:Int))=false:=by simpa using h3
      go_enter func209,ntmps209
      go_wp2_with (first|fail)
      (refine region_later (by kernel_rfl) (by kernel_rfl) ?_;(repeat (go_big_quiet_step (first|(go_at_call 262;rename_i xL;apply calls_later xL (Nat.le_refl _);exact (CN.out _ (by have hbx:=xL.h;exact bcq))))));refine wpQuiet_nil ?_;rintro u7 ⟨xU,eU⟩;have hu7:=xU.h;rw [← eU] at hu7;clear eU xU)
      have cT:=Box.cell (hbT.later hu7);have cZ:=Box.cell (hbZ.later hu7)
      go_wp2_with (go_at_call 263;(with_reducible refine (CU.out _ ?_).mono ?_);(· exact bcq);rintro e w8 ⟨rfl,hb8⟩;obtain ⟨hc8,hf8⟩:=bcell hb8)
      go_ret;exact ⟨rfl,bcq⟩
   ·rw [if_neg (fun q=>h2 q.1)];have e2:(e.kind==2)=false:=by simp [h2]
    by_cases h3:U1=(i:Int)
    ·rw [if_pos h3];subst h3;go_enter func209,ntmps209
     go_wp2_with (first|fail)
     (refine region_later (by kernel_rfl) (by kernel_rfl) ?_;(repeat (go_big_quiet_step (first|(go_at_call 262;rename_i xL;apply calls_later xL (Nat.le_refl _);exact (CN.out _ (by have hbx:=xL.h;exact bcq))))));refine wpQuiet_nil ?_;rintro u7 ⟨xU,eU⟩;have hu7:=xU.h;rw [← eU] at hu7;clear eU xU)
     have cT:=Box.cell (hbT.later hu7);have cZ:=Box.cell (hbZ.later hu7)
     go_wp2_with (go_at_call 263;(with_reducible refine (CU.out _ ?_).mono ?_);(· exact bcq);rintro e w8 ⟨rfl,hb8⟩;obtain ⟨hc8,hf8⟩:=bcell hb8)
     go_ret;exact ⟨rfl,bcq⟩
    ·rw [if_neg h3];have e3:(U1==(i:Int))=false:=by simpa using h3
     go_enter func209,ntmps209
     go_wp2_with (first|fail)
     (refine region_later (by kernel_rfl) (by kernel_rfl) ?_;(repeat (go_big_quiet_step (first|(go_at_call 262;rename_i xL;apply calls_later xL (Nat.le_refl _);exact (CN.out _ (by have hbx:=xL.h;exact bcq))))));refine wpQuiet_nil ?_;rintro u7 ⟨xU,eU⟩;have hu7:=xU.h;rw [← eU] at hu7;clear eU xU)
     have cT:=Box.cell (hbT.later hu7);have cZ:=Box.cell (hbZ.later hu7)
     go_wp2_with (go_at_call 263;(with_reducible refine (CU.out _ ?_).mono ?_);(· exact bcq);rintro e w8 ⟨rfl,hb8⟩;obtain ⟨hc8,hf8⟩:=bcell hb8)
     go_ret;exact ⟨rfl,bcq⟩
end RCk
end
end Go.Proofs.YtgmfojgnjdpofaaGreatDoor
