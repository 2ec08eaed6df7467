import Derived.Test.YtgmfojgnjdpofaaGreatDoorH11
import Derived.Test.YtgmfojgnjdpofaaGreatDoorH6
namespace Go.Proofs.YtgmfojgnjdpofaaGreatDoor
open Go.Proofs.Tryz
open Go.RowKit NB Nxt
namespace ROcc
theorem own_other {X:World} {B b j:Nat} {e:TypeId} {sz n:Nat} {v u:Value} {xs:List Value} (h:X.ownsRow B e sz v n xs) (hb:b<B):(X.setCell ⟨b,j,none⟩ u).ownsRow B e sz v n xs:=by
 refine ⟨h.1,h.2.imp id ?_⟩;rintro ⟨g,cap,cur,h1,h2,h3,h4⟩;exact ⟨g,cap,cur,h1,h2,(Below.heap_setCell X ⟨b,j,none⟩ u g (by show g≠b;omega)).trans h3,h4⟩
theorem occ_len (o:OccV):o.cells.length=3:=rfl
theorem scanA_skip {lt:OccV→OccV→Bool} {fr:OccV} {Y:Int} {l:List RuleV} {name:ByteArray} {k:Nat} {r:RuleV} (hr:l[k]? =some r) (h:¬(r.name=name∧Rul.right r=true)):Occ.scanA lt fr Y l name (k+1)=Occ.scanA lt fr Y l name k:=by
 show (match l[k]? with
  |some r=>if r.name=name∧Rul.right r=true then Occ.foldA lt fr r k (Occ.lowA r Y) (Occ.scanA lt fr Y l name k) (Occ.highA r Y-Occ.lowA r Y+1).toNat else Occ.scanA lt fr Y l name k
  |none=>Occ.scanA lt fr Y l name k)=_
 rw [hr];simp only;rw [if_neg h]
theorem scanA_take {lt:OccV→OccV→Bool} {fr:OccV} {Y:Int} {l:List RuleV} {name:ByteArray} {k:Nat} {r:RuleV} (hr:l[k]? =some r) (h:r.name=name):Occ.foldA lt fr r k (Occ.lowA r Y) (Occ.scanA lt fr Y l name k) (aroundL r k Y).length=Occ.scanA lt fr Y l name (k+1):=by
 unfold aroundL;cases hR:Rul.right r
 ·rw [scanA_skip hr (by rw [hR];rintro ⟨_,h⟩;cases h),if_neg (by decide)];rfl
 ·rw [if_pos rfl,occs_len];show _=(match l[k]? with
  |some r=>if r.name=name∧Rul.right r=true then Occ.foldA lt fr r k (Occ.lowA r Y) (Occ.scanA lt fr Y l name k) (Occ.highA r Y-Occ.lowA r Y+1).toNat else Occ.scanA lt fr Y l name k
  |none=>Occ.scanA lt fr Y l name k)
  rw [hr];simp only;rw [if_pos ⟨h,hR⟩]
theorem around_at {r:RuleV} {i Y:Int} {j:Nat} (h:j<(aroundL r i Y).length):(aroundL r i Y)[j]? =some (Occ.occ r i (Occ.lowA r Y+j)):=by
 unfold aroundL at h ⊢;cases hR:Rul.right r
 ·rw [hR,if_neg (by decide)] at h;cases h
 ·rw [hR,if_pos rfl,occs_len] at h;rw [if_pos rfl];exact occs_at h
theorem around_few (r:RuleV) (i Y:Int):(aroundL r i Y).length≤9223372036854775807:=by
 unfold aroundL
 split
 ·rename_i h;have:=(Rul.right_spec h).1;have:=Occ.low_high h Y;rw [occs_len];omega
 ·simp
set_option maxRecDepth 100000 in
set_option maxHeartbeats 6400000 in
theorem Next (b off cap:Nat) (l:List RuleV) (name:ByteArray) (fr:OccV) (w:World) (hfr:I64 fr.nom) (hc:Lies w b off 11 (l.map RuleV.cells)) (hb:b<w.heap.size) (hcap:l.length≤9223372036854775807) (hs:∀ r∈l,r.Fit):
 Calls prog 192 #[.slice (some ⟨b,off,none⟩) l.length cap,.string name,.agg fr.cells.toArray] w fun e w'=>e=.returned (optV (Occ.nextO l name fr))∧Below w.heap.size w w':=by
 rw [optV_eq, ←Occ.next_eq (Occ.near_nearA fr.nom) l name];have car:=fun (r:RuleV) (hr:r.Fit) (i:Int) (W:World)=>around r hr i fr.nom hfr W;have clf:=fun (o:OccV) (W:World)=>Less fr o W;have clo:=fun (o a:OccV) (W:World)=>Less o a W;generalize Occ.nearA fr.nom=Y at *;obtain ⟨n,hn⟩:∃ n,n=l.length:=⟨_,rfl⟩;rw [← hn] at hcap ⊢;have HN:=kj hn;have Hc:=kj hc;have Hs:=kj hs;have Car:=kj car;have Clf:=kj clf;have Clo:=kj clo;clear hn hc hs car clf clo;have HA:Hid (fr.cells.toArray=#[.int .i64 fr.rule,.int .i64 fr.year,.int .i64 fr.nom]):=rfl;rw [HA.out];go_enter func192,ntmps192;go_wp2
 go_loopw [17,9] (fun i is wr=>∃ (k:Nat) (a:OccV) (g:Bool),i=.int .i64 k∧is=.bool g∧k≤n∧St (Occ.scanA Occ.less fr Y l name k) a g∧Below w.heap.size w wr∧Box wr w.heap.size #[.int .i64 fr.rule,.int .i64 fr.year,.int .i64 fr.nom] 156∧Box wr (w.heap.size+1) #[.int .i64 0,.int .i64 0,.int .i64 0] 156∧Box wr (w.heap.size+2) #[.int .i64 a.rule,.int .i64 a.year,.int .i64 a.nom] 156) (fun i _ _=>n-(intOf i).toNat)
 case atStart=>exact ⟨0,occ0,false,rfl,rfl,Nat.zero_le _,⟨rfl,rfl⟩,bcq,Box.old (Box.old (Box.new w _ _)),Box.old (ROcc.Box.new' (by simp)),ROcc.Box.new' (by simp)⟩
 case round=>
  obtain ⟨k,a,g,rfl,rfl,hk,hst,hbel,h0,h1,h2⟩:=hrel;have Hst:=kj hst;clear hst;have u0:w.heap.size<wr.heap.size:=h0.lt;have u1:w.heap.size+1<wr.heap.size:=h1.lt;have u2:w.heap.size+2<wr.heap.size:=h2.lt;have f0:=h0.cell;have f1:=h1.cell;have f1f:=h1.free;have f2:=h2.cell
  by_cases hlt:k<n
  ·obtain ⟨r,hr⟩:∃ r,l[k]? =some r:=⟨l[k]'(by rw [← HN.out];exact hlt),by simp⟩;have c (j:Nat) (v:Value) (hv:r.cells[j]? =some v):wr.cell? ⟨b,off+k*11+j,none⟩=some v:=by
    rw [hbel.cell (p:=⟨b,off+k*11+j,none⟩) hb];exact Hc.out k j _ v (by rw [List.getElem?_map,hr];rfl) hv
   have c0:=c 0 _ rfl;have c1:=c 1 _ rfl;have c2:=c 2 _ rfl;have c3:=c 3 _ rfl;have c4:=c 4 _ rfl;have c5:=c 5 _ rfl;have c6:=c 6 _ rfl;have c7:=c 7 _ rfl;have c8:=c 8 _ rfl;have c9:=c 9 _ rfl;have c10:=c 10 _ rfl;simp only [Nat.add_zero] at c0;clear c;have cr:=fun W=>Car.out r (Hs.out r (List.mem_of_getElem? hr)) k W;have Hr:=kj hr;clear hr
   by_cases hnm:r.name=name
   case neg=>
    have e1:=str_ne hnm;have Hnm:=kj hnm;clear hnm cr;go_wp2;go_roundw
    case rel=>exact ⟨k+1,a,g,by go_num,rfl,by omega,by rw [scanA_skip Hr.out (fun h=>Hnm.out h.1)];exact Hst.out,bcq,bxq,bxq,bxq⟩
    case measure=>simp [intOf];omega
   case pos=>
    have e1:=str_eq hnm;have hsc:=scanA_take (lt:=Occ.less) (fr:=fr) (Y:=Y) Hr.out hnm;have hat:=fun j h=>around_at (r:=r) (i:=k) (Y:=Y) (j:=j) h;have hfew:=around_few r k Y;obtain ⟨L,hL⟩:∃ L,L=aroundL r k Y:=⟨_,rfl⟩;rw [← hL] at hsc hat hfew cr;obtain ⟨m,hm⟩:∃ m,m=L.length:=⟨_,rfl⟩;rw [← hm] at hsc hat hfew;have Hsc:=kj hsc;have Hat:=kj hat;have Hm:=kj hm;unfold AroundPost RuleV.cells at cr;rw [← hm] at cr;have Cr:=kj cr;clear hnm hsc hat hL hm cr;obtain ⟨wo,hwo⟩:∃ wo:World,wo=wr:=⟨_,rfl⟩;subst hwo
    go_wp2_with (go_at_call 238;(with_reducible refine (Cr.out _).mono ?_);rintro e w3 ⟨v,rfl,hown,hb3⟩;obtain ⟨q,vc,rfl⟩:=Grp.own_form hown)
    have hB3:Below w.heap.size w w3:=bcq;have h0':Box w3 w.heap.size #[.int .i64 fr.rule,.int .i64 fr.year,.int .i64 fr.nom] 156:=Box.later (Box.old h0) hb3;have h1':Box w3 (w.heap.size+1) #[.int .i64 0,.int .i64 0,.int .i64 0] 156:=Box.later (Box.old h1) hb3;have h2':Box w3 (w.heap.size+2) #[.int .i64 a.rule,.int .i64 a.year,.int .i64 a.nom] 156:=Box.later (Box.old h2) hb3;have hown2:=own_mono (B':=w.heap.size+3) hown (by simp;omega);clear hown h0 h1 h2 f0 f1 f1f f2 c0 c1 c2 c3 c4 c5 c6 c7 c8 c9 c10
    go_loopw [32,9] (fun i is wr=>∃ (j:Nat) (a:OccV) (g:Bool),i=.int .i64 j∧is=.bool g∧j≤m∧St (Occ.foldA Occ.less fr r k (Occ.lowA r Y) (Occ.scanA Occ.less fr Y l name k) j) a g∧Below w.heap.size w wr∧Box wr w.heap.size #[.int .i64 fr.rule,.int .i64 fr.year,.int .i64 fr.nom] 156∧Box wr (w.heap.size+1) #[.int .i64 0,.int .i64 0,.int .i64 0] 156∧Box wr (w.heap.size+2) #[.int .i64 a.rule,.int .i64 a.year,.int .i64 a.nom] 156∧wr.ownsRow (w.heap.size+3) 156 3 (.slice q m vc) m (L.flatMap OccV.cells)) (fun i _ _=>m-(intOf i).toNat)
    case atStart=>exact ⟨0,a,g,rfl,rfl,Nat.zero_le _,Hst.out,hB3,h0',h1',h2',hown2⟩
    case round=>
     obtain ⟨j,a,g,rfl,rfl,hj,hst,hbel,h0,h1,h2,hown⟩:=hrel;clear hB3 h0' h1' h2' hown2
     by_cases hjm:j<m
     ·obtain ⟨o,ho⟩:∃ o,o=Occ.occ r k (Occ.lowA r Y+j):=⟨_,rfl⟩;have hlj:=Hat.out j hjm;rw [← ho] at hlj;obtain ⟨g',⟨cap',hv⟩,hgB,hgl,hcell⟩:=Grp.own_cell (j:=j) hown hjm;simp only [Value.slice.injEq,true_and] at hv;obtain ⟨rfl,rfl⟩:=hv;have y0:=hcell _ _ (Grp.flat_at occ_len L j 0 o _ hlj rfl);have y1:=hcell _ _ (Grp.flat_at occ_len L j 1 o _ hlj rfl);have y2:=hcell _ _ (Grp.flat_at occ_len L j 2 o _ hlj rfl);simp only [Nat.add_zero] at y0;clear hcell hlj;have u0:w.heap.size<wr.heap.size:=h0.lt;have u1:w.heap.size+1<wr.heap.size:=h1.lt;have u2:w.heap.size+2<wr.heap.size:=h2.lt;have f0:=h0.cell;have f2:=h2.cell;have f2f:=h2.free;have hstep:Occ.foldA Occ.less fr r k (Occ.lowA r Y) (Occ.scanA Occ.less fr Y l name k) (j+1)=Occ.merge Occ.less (Occ.foldA Occ.less fr r k (Occ.lowA r Y) (Occ.scanA Occ.less fr Y l name k) j) (Occ.one Occ.less fr o):=by rw [ho];rfl
      have Hstep:=kj hstep;have Hst2:=kj hst;have Hown:=kj hown;have clf:=fun W=>Clf.out o W;have clo:=fun W=>Clo.out o a W;unfold OccV.cells at clf clo;clear ho hstep hst hown;cases hL:Occ.less fr o
      ·have hL':Occ.less fr o=false:=hL;rw [hL'] at clf;have Clf2:=kj clf;have HL:=kj hL;clear clf clo hL hL'
       go_wp2_with (go_at_call 239;(with_reducible refine (Clf2.out _).mono ?_);rintro e w4 ⟨rfl,hb4⟩;obtain ⟨hc4_0,hf4_0,hz4_0⟩:=bcs hb4 (w.heap.size);obtain ⟨hc4_1,hf4_1,hz4_1⟩:=bcs hb4 (w.heap.size+2))
       go_roundw
       case rel=>exact ⟨j+1,a,g,by go_num,rfl,by omega,by rw [Hstep.out];unfold Occ.one;rw [if_neg (by rw [HL.out];decide)];have:=Hst2.out;revert this;cases Occ.foldA Occ.less fr r k (Occ.lowA r Y) (Occ.scanA Occ.less fr Y l name k) j<;>exact id,bcq,bxq,bxq,bxq,own_later (Hown.out.alloc _) hb4⟩
       case measure=>simp [intOf];omega
      ·have hL':Occ.less fr o=true:=hL;rw [hL'] at clf;have Clf2:=kj clf;have HL:=kj hL;clear clf hL hL';cases g
       ·clear clo
        go_wp2_with (go_at_call 239;(with_reducible refine (Clf2.out _).mono ?_);rintro e w4 ⟨rfl,hb4⟩;obtain ⟨hc4_0,hf4_0,hz4_0⟩:=bcs hb4 (w.heap.size);obtain ⟨hc4_1,hf4_1,hz4_1⟩:=bcs hb4 (w.heap.size+2);obtain ⟨hc4_2,hf4_2,hz4_2⟩:=bcs hb4 (wr.heap.size))
        go_roundw
        case rel=>exact ⟨j+1,o,true,by go_num,rfl,by omega,by rw [Hstep.out,Hst2.out.none];unfold Occ.one;rw [if_pos HL.out];exact ⟨rfl,rfl⟩,bcq,bxq,bxq,by
         (repeat (first|(with_reducible refine Box.old ?_)|(with_reducible refine Box.drew ?_)));refine Box.set3 (x:=.int .i64 a.rule) (y:=.int .i64 a.year) (z:=.int .i64 a.nom) ?_
         exact bxq,by
         (repeat (first|(with_reducible refine World.ownsRow.alloc ?_ _)|(refine own_other ?_ (by omega))))
         exact own_later (Hown.out.alloc _) hb4⟩
        case measure=>simp [intOf];omega
       ·cases hL2:Occ.less o a
        ·have hL2':Occ.less o a=false:=hL2;rw [hL2'] at clo;have Clo2:=kj clo;have HL2:=kj hL2;clear clo hL2 hL2'
         go_wp2_with (first|(go_at_call 239;(with_reducible refine (Clf2.out _).mono ?_);rintro e w4 ⟨rfl,hb4⟩;obtain ⟨hc4_0,hf4_0,hz4_0⟩:=bcs hb4 (w.heap.size);obtain ⟨hc4_1,hf4_1,hz4_1⟩:=bcs hb4 (w.heap.size+2);obtain ⟨hc4_2,hf4_2,hz4_2⟩:=bcs hb4 (wr.heap.size))|(go_at_call 239;(with_reducible refine (Clo2.out _).mono ?_);rintro e w5 ⟨rfl,hb5⟩;obtain ⟨hc5_0,hf5_0,hz5_0⟩:=bcs hb5 (w.heap.size);obtain ⟨hc5_1,hf5_1,hz5_1⟩:=bcs hb5 (w.heap.size+2);obtain ⟨hc5_2,hf5_2,hz5_2⟩:=bcs hb5 (wr.heap.size)))
         go_roundw
         case rel=>exact ⟨j+1,a,true,by go_num,rfl,by omega,by rw [Hstep.out,Hst2.out.some];unfold Occ.one;rw [if_pos HL.out];unfold Occ.merge;simp only;rw [if_neg (by rw [HL2.out];decide)];exact ⟨rfl,rfl⟩,bcq,bxq,bxq,bxq,own_later (own_later (Hown.out.alloc _) hb4) hb5⟩
         case measure=>simp [intOf];omega
        ·have hL2':Occ.less o a=true:=hL2;rw [hL2'] at clo;have Clo2:=kj clo;have HL2:=kj hL2;clear clo hL2 hL2'
         go_wp2_with (first|(go_at_call 239;(with_reducible refine (Clf2.out _).mono ?_);rintro e w4 ⟨rfl,hb4⟩;obtain ⟨hc4_0,hf4_0,hz4_0⟩:=bcs hb4 (w.heap.size);obtain ⟨hc4_1,hf4_1,hz4_1⟩:=bcs hb4 (w.heap.size+2);obtain ⟨hc4_2,hf4_2,hz4_2⟩:=bcs hb4 (wr.heap.size))|(go_at_call 239;(with_reducible refine (Clo2.out _).mono ?_);rintro e w5 ⟨rfl,hb5⟩;obtain ⟨hc5_0,hf5_0,hz5_0⟩:=bcs hb5 (w.heap.size);obtain ⟨hc5_1,hf5_1,hz5_1⟩:=bcs hb5 (w.heap.size+2);obtain ⟨hc5_2,hf5_2,hz5_2⟩:=bcs hb5 (wr.heap.size)))
         go_roundw
         case rel=>exact ⟨j+1,o,true,by go_num,rfl,by omega,by rw [Hstep.out,Hst2.out.some];unfold Occ.one;rw [if_pos HL.out];unfold Occ.merge;simp only;rw [if_pos HL2.out];exact ⟨rfl,rfl⟩,bcq,bxq,bxq,by
          (repeat (first|(with_reducible refine Box.old ?_)|(with_reducible refine Box.drew ?_)));refine Box.set3 (x:=.int .i64 a.rule) (y:=.int .i64 a.year) (z:=.int .i64 a.nom) ?_
          exact bxq,by
          (repeat (first|(with_reducible refine World.ownsRow.alloc ?_ _)|(refine own_other ?_ (by omega))))
          exact own_later (own_later (Hown.out.alloc _) hb4) hb5⟩
         case measure=>simp [intOf];omega
     ·obtain rfl:j=m:=by omega
      have hst2:=hst;rw [Hsc.out] at hst2;have Hst2:=kj hst2;clear hst hst2;go_wp2;go_roundw
      case rel=>exact ⟨k+1,a,g,by go_num,rfl,by omega,Hst2.out,hbel,h0,h1,h2⟩
      case measure=>simp [intOf];omega
  ·obtain rfl:k=n:=by omega
   go_wp2;refine bodyPost_ret (v:=.tuple #[.agg #[.int .i64 a.rule,.int .i64 a.year,.int .i64 a.nom],.bool g]) ?_ rfl ⟨by rw [← Hst.out.1, ←Hst.out.2];rfl,?_⟩
   ·simp only [results,results192];go_simp
   ·exact bcq
set_option maxRecDepth 100000 in
set_option maxHeartbeats 6400000 in
theorem Prev (b off cap:Nat) (l:List RuleV) (name:ByteArray) (fr:OccV) (w:World) (hfr:I64 fr.nom) (hc:Lies w b off 11 (l.map RuleV.cells)) (hb:b<w.heap.size) (hcap:l.length≤9223372036854775807) (hs:∀ r∈l,r.Fit):
 Calls prog 178 #[.slice (some ⟨b,off,none⟩) l.length cap,.string name,.agg fr.cells.toArray] w fun e w'=>e=.returned (optV (Occ.prevO l name fr))∧Below w.heap.size w w':=by
 rw [optV_eq, ←Occ.prev_eq (Occ.near_nearA fr.nom) l name];have car:=fun (r:RuleV) (hr:r.Fit) (i:Int) (W:World)=>around r hr i fr.nom hfr W;have clf:=fun (o:OccV) (W:World)=>Less o fr W;have clo:=fun (o a:OccV) (W:World)=>Less a o W;generalize Occ.nearA fr.nom=Y at *;obtain ⟨n,hn⟩:∃ n,n=l.length:=⟨_,rfl⟩;rw [← hn] at hcap ⊢;have HN:=kj hn;have Hc:=kj hc;have Hs:=kj hs;have Car:=kj car;have Clf:=kj clf;have Clo:=kj clo;clear hn hc hs car clf clo;have HA:Hid (fr.cells.toArray=#[.int .i64 fr.rule,.int .i64 fr.year,.int .i64 fr.nom]):=rfl;rw [HA.out];go_enter func178,ntmps178;go_wp2
 go_loopw [17,9] (fun i is wr=>∃ (k:Nat) (a:OccV) (g:Bool),i=.int .i64 k∧is=.bool g∧k≤n∧St (Occ.scanA Occ.more fr Y l name k) a g∧Below w.heap.size w wr∧Box wr w.heap.size #[.int .i64 fr.rule,.int .i64 fr.year,.int .i64 fr.nom] 156∧Box wr (w.heap.size+1) #[.int .i64 0,.int .i64 0,.int .i64 0] 156∧Box wr (w.heap.size+2) #[.int .i64 a.rule,.int .i64 a.year,.int .i64 a.nom] 156) (fun i _ _=>n-(intOf i).toNat)
 case atStart=>exact ⟨0,occ0,false,rfl,rfl,Nat.zero_le _,⟨rfl,rfl⟩,bcq,Box.old (Box.old (Box.new w _ _)),Box.old (ROcc.Box.new' (by simp)),ROcc.Box.new' (by simp)⟩
 case round=>
  obtain ⟨k,a,g,rfl,rfl,hk,hst,hbel,h0,h1,h2⟩:=hrel;have Hst:=kj hst;clear hst;have u0:w.heap.size<wr.heap.size:=h0.lt;have u1:w.heap.size+1<wr.heap.size:=h1.lt;have u2:w.heap.size+2<wr.heap.size:=h2.lt;have f0:=h0.cell;have f1:=h1.cell;have f1f:=h1.free;have f2:=h2.cell
  by_cases hlt:k<n
  ·obtain ⟨r,hr⟩:∃ r,l[k]? =some r:=⟨l[k]'(by rw [← HN.out];exact hlt),by simp⟩;have c (j:Nat) (v:Value) (hv:r.cells[j]? =some v):wr.cell? ⟨b,off+k*11+j,none⟩=some v:=by
    rw [hbel.cell (p:=⟨b,off+k*11+j,none⟩) hb];exact Hc.out k j _ v (by rw [List.getElem?_map,hr];rfl) hv
   have c0:=c 0 _ rfl;have c1:=c 1 _ rfl;have c2:=c 2 _ rfl;have c3:=c 3 _ rfl;have c4:=c 4 _ rfl;have c5:=c 5 _ rfl;have c6:=c 6 _ rfl;have c7:=c 7 _ rfl;have c8:=c 8 _ rfl;have c9:=c 9 _ rfl;have c10:=c 10 _ rfl;simp only [Nat.add_zero] at c0;clear c;have cr:=fun W=>Car.out r (Hs.out r (List.mem_of_getElem? hr)) k W;have Hr:=kj hr;clear hr
   by_cases hnm:r.name=name
   case neg=>
    have e1:=str_ne hnm;have Hnm:=kj hnm;clear hnm cr;go_wp2;go_roundw
    case rel=>exact ⟨k+1,a,g,by go_num,rfl,by omega,by rw [scanA_skip Hr.out (fun h=>Hnm.out h.1)];exact Hst.out,bcq,bxq,bxq,bxq⟩
    case measure=>simp [intOf];omega
   case pos=>
    have e1:=str_eq hnm;have hsc:=scanA_take (lt:=Occ.more) (fr:=fr) (Y:=Y) Hr.out hnm;have hat:=fun j h=>around_at (r:=r) (i:=k) (Y:=Y) (j:=j) h;have hfew:=around_few r k Y;obtain ⟨L,hL⟩:∃ L,L=aroundL r k Y:=⟨_,rfl⟩;rw [← hL] at hsc hat hfew cr;obtain ⟨m,hm⟩:∃ m,m=L.length:=⟨_,rfl⟩;rw [← hm] at hsc hat hfew;have Hsc:=kj hsc;have Hat:=kj hat;have Hm:=kj hm;unfold AroundPost RuleV.cells at cr;rw [← hm] at cr;have Cr:=kj cr;clear hnm hsc hat hL hm cr;obtain ⟨wo,hwo⟩:∃ wo:World,wo=wr:=⟨_,rfl⟩;subst hwo
    go_wp2_with (go_at_call 238;(with_reducible refine (Cr.out _).mono ?_);rintro e w3 ⟨v,rfl,hown,hb3⟩;obtain ⟨q,vc,rfl⟩:=Grp.own_form hown)
    have hB3:Below w.heap.size w w3:=bcq;have h0':Box w3 w.heap.size #[.int .i64 fr.rule,.int .i64 fr.year,.int .i64 fr.nom] 156:=Box.later (Box.old h0) hb3;have h1':Box w3 (w.heap.size+1) #[.int .i64 0,.int .i64 0,.int .i64 0] 156:=Box.later (Box.old h1) hb3;have h2':Box w3 (w.heap.size+2) #[.int .i64 a.rule,.int .i64 a.year,.int .i64 a.nom] 156:=Box.later (Box.old h2) hb3;have hown2:=own_mono (B':=w.heap.size+3) hown (by simp;omega);clear hown h0 h1 h2 f0 f1 f1f f2 c0 c1 c2 c3 c4 c5 c6 c7 c8 c9 c10
    go_loopw [32,9] (fun i is wr=>∃ (j:Nat) (a:OccV) (g:Bool),i=.int .i64 j∧is=.bool g∧j≤m∧St (Occ.foldA Occ.more fr r k (Occ.lowA r Y) (Occ.scanA Occ.more fr Y l name k) j) a g∧Below w.heap.size w wr∧Box wr w.heap.size #[.int .i64 fr.rule,.int .i64 fr.year,.int .i64 fr.nom] 156∧Box wr (w.heap.size+1) #[.int .i64 0,.int .i64 0,.int .i64 0] 156∧Box wr (w.heap.size+2) #[.int .i64 a.rule,.int .i64 a.year,.int .i64 a.nom] 156∧wr.ownsRow (w.heap.size+3) 156 3 (.slice q m vc) m (L.flatMap OccV.cells)) (fun i _ _=>m-(intOf i).toNat)
    case atStart=>exact ⟨0,a,g,rfl,rfl,Nat.zero_le _,Hst.out,hB3,h0',h1',h2',hown2⟩
    case round=>
     obtain ⟨j,a,g,rfl,rfl,hj,hst,hbel,h0,h1,h2,hown⟩:=hrel;clear hB3 h0' h1' h2' hown2
     by_cases hjm:j<m
     ·obtain ⟨o,ho⟩:∃ o,o=Occ.occ r k (Occ.lowA r Y+j):=⟨_,rfl⟩;have hlj:=Hat.out j hjm;rw [← ho] at hlj;obtain ⟨g',⟨cap',hv⟩,hgB,hgl,hcell⟩:=Grp.own_cell (j:=j) hown hjm;simp only [Value.slice.injEq,true_and] at hv;obtain ⟨rfl,rfl⟩:=hv;have y0:=hcell _ _ (Grp.flat_at occ_len L j 0 o _ hlj rfl);have y1:=hcell _ _ (Grp.flat_at occ_len L j 1 o _ hlj rfl);have y2:=hcell _ _ (Grp.flat_at occ_len L j 2 o _ hlj rfl);simp only [Nat.add_zero] at y0;clear hcell hlj;have u0:w.heap.size<wr.heap.size:=h0.lt;have u1:w.heap.size+1<wr.heap.size:=h1.lt;have u2:w.heap.size+2<wr.heap.size:=h2.lt;have f0:=h0.cell;have f2:=h2.cell;have f2f:=h2.free;have hstep:Occ.foldA Occ.more fr r k (Occ.lowA r Y) (Occ.scanA Occ.more fr Y l name k) (j+1)=Occ.merge Occ.more (Occ.foldA Occ.more fr r k (Occ.lowA r Y) (Occ.scanA Occ.more fr Y l name k) j) (Occ.one Occ.more fr o):=by rw [ho];rfl
      have Hstep:=kj hstep;have Hst2:=kj hst;have Hown:=kj hown;have clf:=fun W=>Clf.out o W;have clo:=fun W=>Clo.out o a W;unfold OccV.cells at clf clo;clear ho hstep hst hown;cases hL:Occ.more fr o
      ·have hL':Occ.less o fr=false:=hL;rw [hL'] at clf;have Clf2:=kj clf;have HL:=kj hL;clear clf clo hL hL'
       go_wp2_with (go_at_call 239;(with_reducible refine (Clf2.out _).mono ?_);rintro e w4 ⟨rfl,hb4⟩;obtain ⟨hc4_0,hf4_0,hz4_0⟩:=bcs hb4 (w.heap.size);obtain ⟨hc4_1,hf4_1,hz4_1⟩:=bcs hb4 (w.heap.size+2))
       go_roundw
       case rel=>exact ⟨j+1,a,g,by go_num,rfl,by omega,by rw [Hstep.out];unfold Occ.one;rw [if_neg (by rw [HL.out];decide)];have:=Hst2.out;revert this;cases Occ.foldA Occ.more fr r k (Occ.lowA r Y) (Occ.scanA Occ.more fr Y l name k) j<;>exact id,bcq,bxq,bxq,bxq,own_later (Hown.out.alloc _) hb4⟩
       case measure=>simp [intOf];omega
      ·have hL':Occ.less o fr=true:=hL;rw [hL'] at clf;have Clf2:=kj clf;have HL:=kj hL;clear clf hL hL';cases g
       ·clear clo
        go_wp2_with (go_at_call 239;(with_reducible refine (Clf2.out _).mono ?_);rintro e w4 ⟨rfl,hb4⟩;obtain ⟨hc4_0,hf4_0,hz4_0⟩:=bcs hb4 (w.heap.size);obtain ⟨hc4_1,hf4_1,hz4_1⟩:=bcs hb4 (w.heap.size+2);obtain ⟨hc4_2,hf4_2,hz4_2⟩:=bcs hb4 (wr.heap.size))
        go_roundw
        case rel=>exact ⟨j+1,o,true,by go_num,rfl,by omega,by rw [Hstep.out,Hst2.out.none];unfold Occ.one;rw [if_pos HL.out];exact ⟨rfl,rfl⟩,bcq,bxq,bxq,by
         (repeat (first|(with_reducible refine Box.old ?_)|(with_reducible refine Box.drew ?_)));refine Box.set3 (x:=.int .i64 a.rule) (y:=.int .i64 a.year) (z:=.int .i64 a.nom) ?_
         exact bxq,by
         (repeat (first|(with_reducible refine World.ownsRow.alloc ?_ _)|(refine own_other ?_ (by omega))))
         exact own_later (Hown.out.alloc _) hb4⟩
        case measure=>simp [intOf];omega
       ·cases hL2:Occ.more o a
        ·have hL2':Occ.less a o=false:=hL2;rw [hL2'] at clo;have Clo2:=kj clo;have HL2:=kj hL2;clear clo hL2 hL2'
         go_wp2_with (first|(go_at_call 239;(with_reducible refine (Clf2.out _).mono ?_);rintro e w4 ⟨rfl,hb4⟩;obtain ⟨hc4_0,hf4_0,hz4_0⟩:=bcs hb4 (w.heap.size);obtain ⟨hc4_1,hf4_1,hz4_1⟩:=bcs hb4 (w.heap.size+2);obtain ⟨hc4_2,hf4_2,hz4_2⟩:=bcs hb4 (wr.heap.size))|(go_at_call 239;(with_reducible refine (Clo2.out _).mono ?_);rintro e w5 ⟨rfl,hb5⟩;obtain ⟨hc5_0,hf5_0,hz5_0⟩:=bcs hb5 (w.heap.size);obtain ⟨hc5_1,hf5_1,hz5_1⟩:=bcs hb5 (w.heap.size+2);obtain ⟨hc5_2,hf5_2,hz5_2⟩:=bcs hb5 (wr.heap.size)))
         go_roundw
         case rel=>exact ⟨j+1,a,true,by go_num,rfl,by omega,by rw [Hstep.out,Hst2.out.some];unfold Occ.one;rw [if_pos HL.out];unfold Occ.merge;simp only;rw [if_neg (by rw [HL2.out];decide)];exact ⟨rfl,rfl⟩,bcq,bxq,bxq,bxq,own_later (own_later (Hown.out.alloc _) hb4) hb5⟩
         case measure=>simp [intOf];omega
        ·have hL2':Occ.less a o=true:=hL2;rw [hL2'] at clo;have Clo2:=kj clo;have HL2:=kj hL2;clear clo hL2 hL2'
         go_wp2_with (first|(go_at_call 239;(with_reducible refine (Clf2.out _).mono ?_);rintro e w4 ⟨rfl,hb4⟩;obtain ⟨hc4_0,hf4_0,hz4_0⟩:=bcs hb4 (w.heap.size);obtain ⟨hc4_1,hf4_1,hz4_1⟩:=bcs hb4 (w.heap.size+2);obtain ⟨hc4_2,hf4_2,hz4_2⟩:=bcs hb4 (wr.heap.size))|(go_at_call 239;(with_reducible refine (Clo2.out _).mono ?_);rintro e w5 ⟨rfl,hb5⟩;obtain ⟨hc5_0,hf5_0,hz5_0⟩:=bcs hb5 (w.heap.size);obtain ⟨hc5_1,hf5_1,hz5_1⟩:=bcs hb5 (w.heap.size+2);obtain ⟨hc5_2,hf5_2,hz5_2⟩:=bcs hb5 (wr.heap.size)))
         go_roundw
         case rel=>exact ⟨j+1,o,true,by go_num,rfl,by omega,by rw [Hstep.out,Hst2.out.some];unfold Occ.one;rw [if_pos HL.out];unfold Occ.merge;simp only;rw [if_pos HL2.out];exact ⟨rfl,rfl⟩,bcq,bxq,bxq,by
          (repeat (first|(with_reducible refine Box.old ?_)|(with_reducible refine Box.drew ?_)));refine Box.set3 (x:=.int .i64 a.rule) (y:=.int .i64 a.year) (z:=.int .i64 a.nom) ?_
          exact bxq,by
          (repeat (first|(with_reducible refine World.ownsRow.alloc ?_ _)|(refine own_other ?_ (by omega))))
          exact own_later (own_later (Hown.out.alloc _) hb4) hb5⟩
         case measure=>simp [intOf];omega
     ·obtain rfl:j=m:=by omega
      have hst2:=hst;rw [Hsc.out] at hst2;have Hst2:=kj hst2;clear hst hst2;go_wp2;go_roundw
      case rel=>exact ⟨k+1,a,g,by go_num,rfl,by omega,Hst2.out,hbel,h0,h1,h2⟩
      case measure=>simp [intOf];omega
  ·obtain rfl:k=n:=by omega
   go_wp2;refine bodyPost_ret (v:=.tuple #[.agg #[.int .i64 a.rule,.int .i64 a.year,.int .i64 a.nom],.bool g]) ?_ rfl ⟨by rw [← Hst.out.1, ←Hst.out.2];rfl,?_⟩
   ·simp only [results,results178];go_simp
   ·exact bcq
end ROcc
end Go.Proofs.YtgmfojgnjdpofaaGreatDoor
