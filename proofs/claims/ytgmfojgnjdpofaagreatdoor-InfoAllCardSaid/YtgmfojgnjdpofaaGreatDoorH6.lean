import Derived.Test.YtgmfojgnjdpofaaGreatDoorH5
import Derived.Test.YtgmfojgnjdpofaaGreatDoorH3
namespace Go.Proofs.YtgmfojgnjdpofaaGreatDoor
open Go.Proofs.Tryz
open Go.RowKit NB
namespace Nxt
def occ0:OccV:=⟨0,0,0⟩
theorem optV_eq (x:Option OccV):optV x=.tuple #[.agg (x.getD occ0).cells.toArray,.bool x.isSome]:=by cases x<;>rfl
def St (x:Option OccV) (a:OccV) (g:Bool):Prop:=a=x.getD occ0∧g=x.isSome
theorem St.none {x:Option OccV} {a:OccV} (h:St x a false):x=none:=by
 cases x with
 |none=>rfl
 |some y=>cases h.2
theorem St.some {x:Option OccV} {a:OccV} (h:St x a true):x=some a:=by
 cases x with
 |none=>cases h.2
 |some y=>rw [h.1];rfl
theorem at3_of {w:World} {b:Nat} {fr:OccV} {t:TypeId} (h:Box w b #[.int .i64 fr.rule,.int .i64 fr.year,.int .i64 fr.nom] t):At3 w b fr:=h.cell
def pick (l:List RuleV) (name:ByteArray) (cand:RuleV→Int→Option OccV) (k:Nat):Option OccV:=
 match l[k]? with
  |Option.some r=>if r.name=name∧Rul.right r=true then cand r k else Option.none
  |Option.none=>Option.none
theorem scan_skip {lt:OccV→OccV→Bool} {cand:RuleV→Int→Option OccV} {l:List RuleV} {name:ByteArray} {k:Nat} {r:RuleV} (hr:l[k]? =Option.some r) (h:¬(r.name=name∧Rul.right r=true)):Occ.scan lt cand l name (k+1)=Occ.scan lt cand l name k:=by
 show Occ.merge lt (Occ.scan lt cand l name k) (pick l name cand k)=_;unfold pick;rw [hr];simp only;rw [if_neg h];cases Occ.scan lt cand l name k<;>rfl
theorem scan_take {lt:OccV→OccV→Bool} {cand:RuleV→Int→Option OccV} {l:List RuleV} {name:ByteArray} {k:Nat} {r:RuleV} (hr:l[k]? =Option.some r) (h:r.name=name∧Rul.right r=true):Occ.scan lt cand l name (k+1)=Occ.merge lt (Occ.scan lt cand l name k) (cand r k):=by
 show Occ.merge lt (Occ.scan lt cand l name k) (pick l name cand k)=_;unfold pick;rw [hr];simp only;rw [if_pos h]
theorem near_bd (t:Int): -70000≤Occ.nearY t∧Occ.nearY t≤70000:=by
 have h:=Nom.ok_near t;unfold Stp.okD at h;simp only [Bool.and_eq_true,decide_eq_true_eq] at h;have:=Civ.right_spec h.2;unfold Occ.nearY;omega
set_option maxHeartbeats 6400000 in
theorem Next (b off cap:Nat) (l:List RuleV) (name:ByteArray) (fr:OccV) (w:World) (hc:Lies w b off 11 (l.map RuleV.cells)) (hb:b<w.heap.size) (hcap:l.length≤9223372036854775807) (hs:∀ r∈l,r.Fit):
 Calls prog 100 #[.slice (some ⟨b,off,none⟩) l.length cap,.string name,.agg fr.cells.toArray] w fun e w'=>e=.returned (optV (Occ.nextO l name fr))∧Below w.heap.size w w':=by
 rw [optV_eq];have cn:=fun W=>Nom.near fr.nom W;obtain ⟨y0,y1⟩:=near_bd fr.nom;unfold Occ.nextO;obtain ⟨Y,hY⟩:∃ Y,Y=Occ.nearY fr.nom:=⟨_,rfl⟩;rw [← hY] at cn y0 y1;have cx:=fun (r:RuleV) (hr:Rul.right r=true) (i:Int) (W:World) (h1:w.heap.size<W.heap.size) (h2:At3 W w.heap.size fr)=>next r hr i Y y0 y1 fr w.heap.size W h1 h2;obtain ⟨cand,hcand⟩:∃ cand,cand=Occ.upY fr:=⟨_,rfl⟩;have hcd:∀ r i,Occ.scanY Occ.less fr r i (1) (max r.fr (Y-2)) (r.to-max r.fr (Y-2)+1).toNat=cand r i:=by
  intro r i;rw [hcand,hY];rfl
 simp only [hcd] at cx;rw [← hcand];clear hcd hcand hY;obtain ⟨n,hn⟩:∃ n,n=l.length:=⟨_,rfl⟩;rw [← hn] at hcap ⊢;have crt:=fun (r:RuleV) (h:r.Fit) (W:World)=>Rul.Right r h W;have HN:=kj hn;have Hc:=kj hc;have Hs:=kj hs;have Cn:=kj cn;have Cx:=kj cx;have Crt:=kj crt;clear hn hc hs cn cx crt;have HA:Hid (fr.cells.toArray=#[.int .i64 fr.rule,.int .i64 fr.year,.int .i64 fr.nom]):=rfl;rw [HA.out];go_enter func100,ntmps100
 go_wp2_with (go_at_call 161;(with_reducible refine (Cn.out _).mono ?_);rintro e w1 ⟨rfl,hb1⟩;obtain ⟨hc1_0,hf1_0,_⟩:=bcs hb1 (w.heap.size);obtain ⟨hc1_1,hf1_1,_⟩:=bcs hb1 (w.heap.size+1))
 have hB0:Below w.heap.size w w1:=bcq;have bx0:Box w1 w.heap.size #[.int .i64 fr.rule,.int .i64 fr.year,.int .i64 fr.nom] 156:=Box.later (Box.old (Box.new w _ _)) hb1;have bx1:Box w1 (w.heap.size+1) #[.int .i64 0,.int .i64 0,.int .i64 0] 156:=by
  refine Box.later ?_ hb1;have:=Box.new (w.alloc (.cells #[.int .i64 fr.rule,.int .i64 fr.year,.int .i64 fr.nom] 156)) #[.int .i64 0,.int .i64 0,.int .i64 0] 156
  rwa [World.size_alloc] at this
 clear hb1 hc1_0 hf1_0 hc1_1 hf1_1
 go_loopw [18,7] (fun i is wr=>∃ (k:Nat) (a:OccV) (g:Bool),i=.int .i64 k∧is=.bool g∧k≤n∧St (Occ.scan Occ.less cand l name k) a g∧Below w.heap.size w wr∧Box wr w.heap.size #[.int .i64 fr.rule,.int .i64 fr.year,.int .i64 fr.nom] 156∧Box wr (w.heap.size+1) #[.int .i64 a.rule,.int .i64 a.year,.int .i64 a.nom] 156) (fun i _ _=>n-(intOf i).toNat)
 case atStart=>exact ⟨0,occ0,false,rfl,rfl,Nat.zero_le _,⟨rfl,rfl⟩,hB0,bx0,bx1⟩
 case round=>
  obtain ⟨k,a,g,rfl,rfl,hk,hst,hbel,h0,h1⟩:=hrel;clear hB0 bx0 bx1;have Hst:=kj hst;clear hst;have u0:w.heap.size<wr.heap.size:=h0.lt;have u1:w.heap.size+1<wr.heap.size:=h1.lt;have f0:=h0.cell;have f1:=h1.cell;have f2:=h1.free
  by_cases hlt:k<n
  ·obtain ⟨r,hr⟩:∃ r,l[k]? =some r:=⟨l[k]'(by rw [← HN.out];exact hlt),by simp⟩;have c (j:Nat) (v:Value) (hv:r.cells[j]? =some v):wr.cell? ⟨b,off+k*11+j,none⟩=some v:=by
    rw [hbel.cell (p:=⟨b,off+k*11+j,none⟩) hb];exact Hc.out k j _ v (by rw [List.getElem?_map,hr];rfl) hv
   have c0:=c 0 _ rfl;have c1:=c 1 _ rfl;have c2:=c 2 _ rfl;have c3:=c 3 _ rfl;have c4:=c 4 _ rfl;have c5:=c 5 _ rfl;have c6:=c 6 _ rfl;have c7:=c 7 _ rfl;have c8:=c 8 _ rfl;have c9:=c 9 _ rfl;have c10:=c 10 _ rfl;simp only [Nat.add_zero] at c0;clear c;have cr:=fun W=>Crt.out r (Hs.out r (List.mem_of_getElem? hr)) W;have Hr:=kj hr;clear hr
   by_cases hnm:r.name=name
   case neg=>
    have e1:=str_ne hnm;have Hnm:=kj hnm;clear hnm cr;go_wp2;go_roundw
    case rel=>exact ⟨k+1,a,g,by go_num,rfl,by omega,by rw [scan_skip Hr.out (fun h=>Hnm.out h.1)];exact Hst.out,bcq,bxq,bxq⟩
    case measure=>simp [intOf];omega
   case pos=>
    cases hR:Rul.right r
    ·rw [hR] at cr;unfold RuleV.cells at cr;have Cr:=kj cr;have HR:=kj hR;have Hnm:=kj hnm;have e1:=str_eq hnm;clear cr hR hnm
     go_wp2_with (go_at_call 162;(with_reducible refine (Cr.out _).mono ?_);rintro e w2 ⟨rfl,hb2⟩;obtain ⟨hc2_0,hf2_0,hz2_0⟩:=bcs hb2 (w.heap.size);obtain ⟨hc2_1,hf2_1,hz2_1⟩:=bcs hb2 (w.heap.size+1))
     go_roundw
     case rel=>exact ⟨k+1,a,g,by go_num,rfl,by omega,by rw [scan_skip Hr.out (fun h=>by rw [HR.out] at h;cases h.2)];exact Hst.out,bcq,bxq,bxq⟩
     case measure=>simp [intOf];omega
    ·have cnx:=fun W h1 h2=>Cx.out r hR k W h1 h2;rw [hR] at cr;have hsc:=scan_take (lt:=Occ.less) (cand:=cand) Hr.out ⟨hnm,hR⟩;have Hsc:=kj hsc;unfold RuleV.cells at cr cnx;have Cr:=kj cr;have e1:=str_eq hnm;clear cr hR hnm hsc;cases ho:cand r k with
     |none=>
      rw [ho] at cnx;unfold optV at cnx;simp only at cnx;have Cnx:=kj cnx;have Ho:=kj ho;clear cnx ho
      go_wp2_with (first
       |(go_at_call 162;(with_reducible refine (Cr.out _).mono ?_);rintro e w2 ⟨rfl,hb2⟩;obtain ⟨hc2_0,hf2_0,hz2_0⟩:=bcs hb2 (w.heap.size);obtain ⟨hc2_1,hf2_1,hz2_1⟩:=bcs hb2 (w.heap.size+1);obtain ⟨hc2_2,hf2_2,hz2_2⟩:=bcs hb2 (wr.heap.size))
       |(go_at_call 163;(with_reducible refine (Cnx.out _ ?_ ?_).mono ?_);(· first|assumption|omega|(simp;done)|(simp;omega));(· exact at3_of (t:=156) bxq);rintro e w3 ⟨rfl,hb3⟩;obtain ⟨hc3_0,hf3_0,hz3_0⟩:=bcs hb3 (w.heap.size);obtain ⟨hc3_1,hf3_1,hz3_1⟩:=bcs hb3 (w.heap.size+1)))
      go_roundw
      case rel=>exact ⟨k+1,a,g,by go_num,rfl,by omega,by rw [Hsc.out,Ho.out];have:=Hst.out;revert this;cases Occ.scan Occ.less cand l name k<;>exact id,bcq,bxq,bxq⟩
      case measure=>simp [intOf];omega
     |some o=>
      rw [ho] at cnx;unfold optV at cnx;simp only at cnx;unfold OccV.cells at cnx;have Cnx:=kj cnx;have Ho:=kj ho;clear cnx ho;cases g
      ·go_wp2_with (first
        |(go_at_call 162;(with_reducible refine (Cr.out _).mono ?_);rintro e w2 ⟨rfl,hb2⟩;obtain ⟨hc2_0,hf2_0,hz2_0⟩:=bcs hb2 (w.heap.size);obtain ⟨hc2_1,hf2_1,hz2_1⟩:=bcs hb2 (w.heap.size+1);obtain ⟨hc2_2,hf2_2,hz2_2⟩:=bcs hb2 (wr.heap.size))
        |(go_at_call 163;(with_reducible refine (Cnx.out _ ?_ ?_).mono ?_);(· first|assumption|omega|(simp;done)|(simp;omega));(· exact at3_of (t:=156) bxq);rintro e w3 ⟨rfl,hb3⟩;obtain ⟨hc3_0,hf3_0,hz3_0⟩:=bcs hb3 (w.heap.size);obtain ⟨hc3_1,hf3_1,hz3_1⟩:=bcs hb3 (w.heap.size+1)))
       go_roundw
       case rel=>exact ⟨k+1,o,true,by go_num,rfl,by omega,by rw [Hsc.out,Ho.out,Hst.out.none];exact ⟨rfl,rfl⟩,bcq,bxq,by
        (repeat (first|(with_reducible refine Box.old ?_)|(with_reducible refine Box.drew ?_)));refine Box.set3 (x:=.int .i64 a.rule) (y:=.int .i64 a.year) (z:=.int .i64 a.nom) ?_
        exact bxq⟩
       case measure=>simp [intOf];omega
      ·have cls:=fun W=>Cmp.Less o a W;unfold OccV.cells at cls;cases hL:Occ.less o a
       ·have hL':Occ.less o a=false:=hL;rw [hL'] at cls;have Cls:=kj cls;have HL:=kj hL;clear cls hL hL'
        go_wp2_with (first
         |(go_at_call 162;(with_reducible refine (Cr.out _).mono ?_);rintro e w2 ⟨rfl,hb2⟩;obtain ⟨hc2_0,hf2_0,hz2_0⟩:=bcs hb2 (w.heap.size);obtain ⟨hc2_1,hf2_1,hz2_1⟩:=bcs hb2 (w.heap.size+1);obtain ⟨hc2_2,hf2_2,hz2_2⟩:=bcs hb2 (wr.heap.size))
         |(go_at_call 163;(with_reducible refine (Cnx.out _ ?_ ?_).mono ?_);(· first|assumption|omega|(simp;done)|(simp;omega));(· exact at3_of (t:=156) bxq);rintro e w3 ⟨rfl,hb3⟩;obtain ⟨hc3_0,hf3_0,hz3_0⟩:=bcs hb3 (w.heap.size);obtain ⟨hc3_1,hf3_1,hz3_1⟩:=bcs hb3 (w.heap.size+1))
         |(go_at_call 165;(with_reducible refine (Cls.out _).mono ?_);rintro e w4 ⟨rfl,hb4⟩;obtain ⟨hc4_0,hf4_0,hz4_0⟩:=bcs hb4 (w.heap.size);obtain ⟨hc4_1,hf4_1,hz4_1⟩:=bcs hb4 (w.heap.size+1);obtain ⟨hc4_2,hf4_2,hz4_2⟩:=bcs hb4 (w3.heap.size)))
        go_roundw
        case rel=>exact ⟨k+1,a,true,by go_num,rfl,by omega,by rw [Hsc.out,Ho.out,Hst.out.some];unfold Occ.merge;simp only;rw [if_neg (by rw [HL.out];decide)];exact ⟨rfl,rfl⟩,bcq,bxq,bxq⟩
        case measure=>simp [intOf];omega
       ·have hL':Occ.less o a=true:=hL;rw [hL'] at cls;have Cls:=kj cls;have HL:=kj hL;clear cls hL hL'
        go_wp2_with (first
         |(go_at_call 162;(with_reducible refine (Cr.out _).mono ?_);rintro e w2 ⟨rfl,hb2⟩;obtain ⟨hc2_0,hf2_0,hz2_0⟩:=bcs hb2 (w.heap.size);obtain ⟨hc2_1,hf2_1,hz2_1⟩:=bcs hb2 (w.heap.size+1);obtain ⟨hc2_2,hf2_2,hz2_2⟩:=bcs hb2 (wr.heap.size))
         |(go_at_call 163;(with_reducible refine (Cnx.out _ ?_ ?_).mono ?_);(· first|assumption|omega|(simp;done)|(simp;omega));(· exact at3_of (t:=156) bxq);rintro e w3 ⟨rfl,hb3⟩;obtain ⟨hc3_0,hf3_0,hz3_0⟩:=bcs hb3 (w.heap.size);obtain ⟨hc3_1,hf3_1,hz3_1⟩:=bcs hb3 (w.heap.size+1))
         |(go_at_call 165;(with_reducible refine (Cls.out _).mono ?_);rintro e w4 ⟨rfl,hb4⟩;obtain ⟨hc4_0,hf4_0,hz4_0⟩:=bcs hb4 (w.heap.size);obtain ⟨hc4_1,hf4_1,hz4_1⟩:=bcs hb4 (w.heap.size+1);obtain ⟨hc4_2,hf4_2,hz4_2⟩:=bcs hb4 (w3.heap.size)))
        go_roundw
        case rel=>exact ⟨k+1,o,true,by go_num,rfl,by omega,by rw [Hsc.out,Ho.out,Hst.out.some];unfold Occ.merge;simp only;rw [if_pos HL.out];exact ⟨rfl,rfl⟩,bcq,bxq,by
         (repeat (first|(with_reducible refine Box.old ?_)|(with_reducible refine Box.drew ?_)));refine Box.set3 (x:=.int .i64 a.rule) (y:=.int .i64 a.year) (z:=.int .i64 a.nom) ?_
         exact bxq⟩
        case measure=>simp [intOf];omega
  ·obtain rfl:k=n:=by omega
   go_wp2;refine bodyPost_ret (v:=.tuple #[.agg #[.int .i64 a.rule,.int .i64 a.year,.int .i64 a.nom],.bool g]) ?_ rfl ⟨by rw [← Hst.out.1, ←Hst.out.2];rfl,?_⟩
   ·simp only [results,results100];go_simp
   ·exact bcq
set_option maxHeartbeats 6400000 in
theorem Prev (b off cap:Nat) (l:List RuleV) (name:ByteArray) (fr:OccV) (w:World) (hc:Lies w b off 11 (l.map RuleV.cells)) (hb:b<w.heap.size) (hcap:l.length≤9223372036854775807) (hs:∀ r∈l,r.Fit):
 Calls prog 102 #[.slice (some ⟨b,off,none⟩) l.length cap,.string name,.agg fr.cells.toArray] w fun e w'=>e=.returned (optV (Occ.prevO l name fr))∧Below w.heap.size w w':=by
 rw [optV_eq];have cn:=fun W=>Nom.near fr.nom W;obtain ⟨y0,y1⟩:=near_bd fr.nom;unfold Occ.prevO;obtain ⟨Y,hY⟩:∃ Y,Y=Occ.nearY fr.nom:=⟨_,rfl⟩;rw [← hY] at cn y0 y1;have cx:=fun (r:RuleV) (hr:Rul.right r=true) (i:Int) (W:World) (h1:w.heap.size<W.heap.size) (h2:At3 W w.heap.size fr)=>prev r hr i Y y0 y1 fr w.heap.size W h1 h2;obtain ⟨cand,hcand⟩:∃ cand,cand=Occ.downY fr:=⟨_,rfl⟩;have hcd:∀ r i,Occ.scanY Occ.more fr r i (-1) (min r.to (Y+2)) (min r.to (Y+2)-r.fr+1).toNat=cand r i:=by
  intro r i;rw [hcand,hY];rfl
 simp only [hcd] at cx;rw [← hcand];clear hcd hcand hY;obtain ⟨n,hn⟩:∃ n,n=l.length:=⟨_,rfl⟩;rw [← hn] at hcap ⊢;have crt:=fun (r:RuleV) (h:r.Fit) (W:World)=>Rul.Right r h W;have HN:=kj hn;have Hc:=kj hc;have Hs:=kj hs;have Cn:=kj cn;have Cx:=kj cx;have Crt:=kj crt;clear hn hc hs cn cx crt;have HA:Hid (fr.cells.toArray=#[.int .i64 fr.rule,.int .i64 fr.year,.int .i64 fr.nom]):=rfl;rw [HA.out];go_enter func102,ntmps102
 go_wp2_with (go_at_call 161;(with_reducible refine (Cn.out _).mono ?_);rintro e w1 ⟨rfl,hb1⟩;obtain ⟨hc1_0,hf1_0,_⟩:=bcs hb1 (w.heap.size);obtain ⟨hc1_1,hf1_1,_⟩:=bcs hb1 (w.heap.size+1))
 have hB0:Below w.heap.size w w1:=bcq;have bx0:Box w1 w.heap.size #[.int .i64 fr.rule,.int .i64 fr.year,.int .i64 fr.nom] 156:=Box.later (Box.old (Box.new w _ _)) hb1;have bx1:Box w1 (w.heap.size+1) #[.int .i64 0,.int .i64 0,.int .i64 0] 156:=by
  refine Box.later ?_ hb1;have:=Box.new (w.alloc (.cells #[.int .i64 fr.rule,.int .i64 fr.year,.int .i64 fr.nom] 156)) #[.int .i64 0,.int .i64 0,.int .i64 0] 156
  rwa [World.size_alloc] at this
 clear hb1 hc1_0 hf1_0 hc1_1 hf1_1
 go_loopw [18,7] (fun i is wr=>∃ (k:Nat) (a:OccV) (g:Bool),i=.int .i64 k∧is=.bool g∧k≤n∧St (Occ.scan Occ.more cand l name k) a g∧Below w.heap.size w wr∧Box wr w.heap.size #[.int .i64 fr.rule,.int .i64 fr.year,.int .i64 fr.nom] 156∧Box wr (w.heap.size+1) #[.int .i64 a.rule,.int .i64 a.year,.int .i64 a.nom] 156) (fun i _ _=>n-(intOf i).toNat)
 case atStart=>exact ⟨0,occ0,false,rfl,rfl,Nat.zero_le _,⟨rfl,rfl⟩,hB0,bx0,bx1⟩
 case round=>
  obtain ⟨k,a,g,rfl,rfl,hk,hst,hbel,h0,h1⟩:=hrel;clear hB0 bx0 bx1;have Hst:=kj hst;clear hst;have u0:w.heap.size<wr.heap.size:=h0.lt;have u1:w.heap.size+1<wr.heap.size:=h1.lt;have f0:=h0.cell;have f1:=h1.cell;have f2:=h1.free
  by_cases hlt:k<n
  ·obtain ⟨r,hr⟩:∃ r,l[k]? =some r:=⟨l[k]'(by rw [← HN.out];exact hlt),by simp⟩;have c (j:Nat) (v:Value) (hv:r.cells[j]? =some v):wr.cell? ⟨b,off+k*11+j,none⟩=some v:=by
    rw [hbel.cell (p:=⟨b,off+k*11+j,none⟩) hb];exact Hc.out k j _ v (by rw [List.getElem?_map,hr];rfl) hv
   have c0:=c 0 _ rfl;have c1:=c 1 _ rfl;have c2:=c 2 _ rfl;have c3:=c 3 _ rfl;have c4:=c 4 _ rfl;have c5:=c 5 _ rfl;have c6:=c 6 _ rfl;have c7:=c 7 _ rfl;have c8:=c 8 _ rfl;have c9:=c 9 _ rfl;have c10:=c 10 _ rfl;simp only [Nat.add_zero] at c0;clear c;have cr:=fun W=>Crt.out r (Hs.out r (List.mem_of_getElem? hr)) W;have Hr:=kj hr;clear hr
   by_cases hnm:r.name=name
   case neg=>
    have e1:=str_ne hnm;have Hnm:=kj hnm;clear hnm cr;go_wp2;go_roundw
    case rel=>exact ⟨k+1,a,g,by go_num,rfl,by omega,by rw [scan_skip Hr.out (fun h=>Hnm.out h.1)];exact Hst.out,bcq,bxq,bxq⟩
    case measure=>simp [intOf];omega
   case pos=>
    cases hR:Rul.right r
    ·rw [hR] at cr;unfold RuleV.cells at cr;have Cr:=kj cr;have HR:=kj hR;have Hnm:=kj hnm;have e1:=str_eq hnm;clear cr hR hnm
     go_wp2_with (go_at_call 162;(with_reducible refine (Cr.out _).mono ?_);rintro e w2 ⟨rfl,hb2⟩;obtain ⟨hc2_0,hf2_0,hz2_0⟩:=bcs hb2 (w.heap.size);obtain ⟨hc2_1,hf2_1,hz2_1⟩:=bcs hb2 (w.heap.size+1))
     go_roundw
     case rel=>exact ⟨k+1,a,g,by go_num,rfl,by omega,by rw [scan_skip Hr.out (fun h=>by rw [HR.out] at h;cases h.2)];exact Hst.out,bcq,bxq,bxq⟩
     case measure=>simp [intOf];omega
    ·have cnx:=fun W h1 h2=>Cx.out r hR k W h1 h2;rw [hR] at cr;have hsc:=scan_take (lt:=Occ.more) (cand:=cand) Hr.out ⟨hnm,hR⟩;have Hsc:=kj hsc;unfold RuleV.cells at cr cnx;have Cr:=kj cr;have e1:=str_eq hnm;clear cr hR hnm hsc;cases ho:cand r k with
     |none=>
      rw [ho] at cnx;unfold optV at cnx;simp only at cnx;have Cnx:=kj cnx;have Ho:=kj ho;clear cnx ho
      go_wp2_with (first
       |(go_at_call 162;(with_reducible refine (Cr.out _).mono ?_);rintro e w2 ⟨rfl,hb2⟩;obtain ⟨hc2_0,hf2_0,hz2_0⟩:=bcs hb2 (w.heap.size);obtain ⟨hc2_1,hf2_1,hz2_1⟩:=bcs hb2 (w.heap.size+1);obtain ⟨hc2_2,hf2_2,hz2_2⟩:=bcs hb2 (wr.heap.size))
       |(go_at_call 167;(with_reducible refine (Cnx.out _ ?_ ?_).mono ?_);(· first|assumption|omega|(simp;done)|(simp;omega));(· exact at3_of (t:=156) bxq);rintro e w3 ⟨rfl,hb3⟩;obtain ⟨hc3_0,hf3_0,hz3_0⟩:=bcs hb3 (w.heap.size);obtain ⟨hc3_1,hf3_1,hz3_1⟩:=bcs hb3 (w.heap.size+1)))
      go_roundw
      case rel=>exact ⟨k+1,a,g,by go_num,rfl,by omega,by rw [Hsc.out,Ho.out];have:=Hst.out;revert this;cases Occ.scan Occ.more cand l name k<;>exact id,bcq,bxq,bxq⟩
      case measure=>simp [intOf];omega
     |some o=>
      rw [ho] at cnx;unfold optV at cnx;simp only at cnx;unfold OccV.cells at cnx;have Cnx:=kj cnx;have Ho:=kj ho;clear cnx ho;cases g
      ·go_wp2_with (first
        |(go_at_call 162;(with_reducible refine (Cr.out _).mono ?_);rintro e w2 ⟨rfl,hb2⟩;obtain ⟨hc2_0,hf2_0,hz2_0⟩:=bcs hb2 (w.heap.size);obtain ⟨hc2_1,hf2_1,hz2_1⟩:=bcs hb2 (w.heap.size+1);obtain ⟨hc2_2,hf2_2,hz2_2⟩:=bcs hb2 (wr.heap.size))
        |(go_at_call 167;(with_reducible refine (Cnx.out _ ?_ ?_).mono ?_);(· first|assumption|omega|(simp;done)|(simp;omega));(· exact at3_of (t:=156) bxq);rintro e w3 ⟨rfl,hb3⟩;obtain ⟨hc3_0,hf3_0,hz3_0⟩:=bcs hb3 (w.heap.size);obtain ⟨hc3_1,hf3_1,hz3_1⟩:=bcs hb3 (w.heap.size+1)))
       go_roundw
       case rel=>exact ⟨k+1,o,true,by go_num,rfl,by omega,by rw [Hsc.out,Ho.out,Hst.out.none];exact ⟨rfl,rfl⟩,bcq,bxq,by
        (repeat (first|(with_reducible refine Box.old ?_)|(with_reducible refine Box.drew ?_)));refine Box.set3 (x:=.int .i64 a.rule) (y:=.int .i64 a.year) (z:=.int .i64 a.nom) ?_
        exact bxq⟩
       case measure=>simp [intOf];omega
      ·have cls:=fun W=>Cmp.Less a o W;unfold OccV.cells at cls;cases hL:Occ.more o a
       ·have hL':Occ.less a o=false:=hL;rw [hL'] at cls;have Cls:=kj cls;have HL:=kj hL;clear cls hL hL'
        go_wp2_with (first
         |(go_at_call 162;(with_reducible refine (Cr.out _).mono ?_);rintro e w2 ⟨rfl,hb2⟩;obtain ⟨hc2_0,hf2_0,hz2_0⟩:=bcs hb2 (w.heap.size);obtain ⟨hc2_1,hf2_1,hz2_1⟩:=bcs hb2 (w.heap.size+1);obtain ⟨hc2_2,hf2_2,hz2_2⟩:=bcs hb2 (wr.heap.size))
         |(go_at_call 167;(with_reducible refine (Cnx.out _ ?_ ?_).mono ?_);(· first|assumption|omega|(simp;done)|(simp;omega));(· exact at3_of (t:=156) bxq);rintro e w3 ⟨rfl,hb3⟩;obtain ⟨hc3_0,hf3_0,hz3_0⟩:=bcs hb3 (w.heap.size);obtain ⟨hc3_1,hf3_1,hz3_1⟩:=bcs hb3 (w.heap.size+1))
         |(go_at_call 165;(with_reducible refine (Cls.out _).mono ?_);rintro e w4 ⟨rfl,hb4⟩;obtain ⟨hc4_0,hf4_0,hz4_0⟩:=bcs hb4 (w.heap.size);obtain ⟨hc4_1,hf4_1,hz4_1⟩:=bcs hb4 (w.heap.size+1);obtain ⟨hc4_2,hf4_2,hz4_2⟩:=bcs hb4 (w3.heap.size)))
        go_roundw
        case rel=>exact ⟨k+1,a,true,by go_num,rfl,by omega,by rw [Hsc.out,Ho.out,Hst.out.some];unfold Occ.merge;simp only;rw [if_neg (by rw [HL.out];decide)];exact ⟨rfl,rfl⟩,bcq,bxq,bxq⟩
        case measure=>simp [intOf];omega
       ·have hL':Occ.less a o=true:=hL;rw [hL'] at cls;have Cls:=kj cls;have HL:=kj hL;clear cls hL hL'
        go_wp2_with (first
         |(go_at_call 162;(with_reducible refine (Cr.out _).mono ?_);rintro e w2 ⟨rfl,hb2⟩;obtain ⟨hc2_0,hf2_0,hz2_0⟩:=bcs hb2 (w.heap.size);obtain ⟨hc2_1,hf2_1,hz2_1⟩:=bcs hb2 (w.heap.size+1);obtain ⟨hc2_2,hf2_2,hz2_2⟩:=bcs hb2 (wr.heap.size))
         |(go_at_call 167;(with_reducible refine (Cnx.out _ ?_ ?_).mono ?_);(· first|assumption|omega|(simp;done)|(simp;omega));(· exact at3_of (t:=156) bxq);rintro e w3 ⟨rfl,hb3⟩;obtain ⟨hc3_0,hf3_0,hz3_0⟩:=bcs hb3 (w.heap.size);obtain ⟨hc3_1,hf3_1,hz3_1⟩:=bcs hb3 (w.heap.size+1))
         |(go_at_call 165;(with_reducible refine (Cls.out _).mono ?_);rintro e w4 ⟨rfl,hb4⟩;obtain ⟨hc4_0,hf4_0,hz4_0⟩:=bcs hb4 (w.heap.size);obtain ⟨hc4_1,hf4_1,hz4_1⟩:=bcs hb4 (w.heap.size+1);obtain ⟨hc4_2,hf4_2,hz4_2⟩:=bcs hb4 (w3.heap.size)))
        go_roundw
        case rel=>exact ⟨k+1,o,true,by go_num,rfl,by omega,by rw [Hsc.out,Ho.out,Hst.out.some];unfold Occ.merge;simp only;rw [if_pos HL.out];exact ⟨rfl,rfl⟩,bcq,bxq,by
         (repeat (first|(with_reducible refine Box.old ?_)|(with_reducible refine Box.drew ?_)));refine Box.set3 (x:=.int .i64 a.rule) (y:=.int .i64 a.year) (z:=.int .i64 a.nom) ?_
         exact bxq⟩
        case measure=>simp [intOf];omega
  ·obtain rfl:k=n:=by omega
   go_wp2;refine bodyPost_ret (v:=.tuple #[.agg #[.int .i64 a.rule,.int .i64 a.year,.int .i64 a.nom],.bool g]) ?_ rfl ⟨by rw [← Hst.out.1, ←Hst.out.2];rfl,?_⟩
   ·simp only [results,results102];go_simp
   ·exact bcq
end Nxt
end Go.Proofs.YtgmfojgnjdpofaaGreatDoor
