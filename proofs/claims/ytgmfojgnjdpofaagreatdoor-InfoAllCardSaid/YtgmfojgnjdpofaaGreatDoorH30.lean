import Derived.Test.YtgmfojgnjdpofaaGreatDoorH29
import Derived.Test.YtgmfojgnjdpofaaGreatDoorH18
import Derived.Test.YtgmfojgnjdpofaaGreatDoorH19
import Derived.Test.YtgmfojgnjdpofaaGreatDoorH14
import Derived.Test.YtgmfojgnjdpofaaGreatDoorH15
import Derived.Test.YtgmfojgnjdpofaaGreatDoorH3
namespace Go.Proofs.YtgmfojgnjdpofaaGreatDoor
open Go.Proofs.Tryz
section
open Go.RowKit NB
namespace RWr
open Rd Eqs
theorem zone_rights {x:ZoneV} (h:zoneOk x=true):Nam.nameE x.name=0∧0<x.es.length∧∀ e∈x.es,Er.rightB e=true:=by
 unfold zoneOk at h;rw [Bool.and_eq_true,decide_eq_true_eq] at h;obtain ⟨h0,h1⟩:=Zn.zone_iff.1 h.2;refine ⟨h.1,h0,fun e he=> ?_⟩;obtain ⟨j,hj⟩:=List.mem_iff_getElem?.1 he;have:=h1 j e (List.getElem?_eq_some_iff.1 hj).1 hj;unfold Zn.okAt at this;exact (Bool.and_eq_true_iff.1 this).1
theorem zoneL_at {x:ZoneV} {i:Nat} {e:EraV} (h:x.es[i]? =some e):(zoneL x)[i]? =some (if i=0 then .zone x.name e else .more e):=by
 unfold zoneL;cases hx:x.es with
 |nil=>rw [hx] at h;cases h
 |cons a r=>
  rw [hx] at h;cases i with
  |zero=>cases h;rfl
  |succ i=>
   dsimp only;rw [List.getElem?_cons_succ] at h ⊢;rw [List.getElem?_map,h,if_neg (by omega)];rfl
theorem zoneL_len (x:ZoneV):(zoneL x).length=x.es.length:=by
 unfold zoneL;cases x.es with
 |nil=>rfl
 |cons a r=>simp
theorem take_at {P Q:List Ln} {i:Nat} {x:Ln} (h:Q[i]? =some x):P++Q.take (i+1)=(P++Q.take i)++[x]:=by
 rw [List.take_add_one,h, ←List.append_assoc];rfl
theorem grow {S:ByteArray} {P:List Ln} {x:Ln} {N:Nat} (hS:S=ofL (srcB P)) (hN:S.size≤N*512) (hx:x.right=true):S++ofL (x.bytes++[10])=ofL (srcB (P++[x]))∧(S++ofL (x.bytes++[10])).size≤(N+1)*512:=by
 refine ⟨by rw [hS];exact src_snoc P x,?_⟩;have:=bytes_size hx;rw [ByteArray.size_append];omega
set_option maxRecDepth 100000 in
set_option maxHeartbeats 6400000 in
theorem Text {w:World} {t:TabV} (ht:HoldsT w t) (hr:rightT t=true) (b1:t.rs.length≤12) (b2:t.zs.length≤10) (b3:t.ls.length≤16) (b4:∀ z∈t.zs,z.es.length≤12):
 Calls prog 92 #[.agg #[t.rv,t.zv,t.lv]] w fun e w'=>e=.returned (.tuple #[.string (ofL (srcB (tabL t))),.int .i64 0])∧Below w.heap.size w w':=by
 have cr:=fun W (h:HoldsT W t)=>Right h;rw [hr] at cr;have HTT:=kj ht;obtain ⟨R,hR⟩:∃ R,R=ofL (srcB (tabL t)):=⟨_,rfl⟩;rw [← hR];unfold rightT at hr;rw [Bool.and_eq_true,Bool.and_eq_true] at hr;obtain ⟨r1,r2,r3⟩:=hr;have HR1:=kj (List.all_eq_true.1 r1);have HR2:=kj (List.all_eq_true.1 r2);have HR3:=kj (List.all_eq_true.1 r3);obtain ⟨rv,zv,lv,rs,zs,ls⟩:=t;obtain ⟨p,cap,e1,hpr⟩:=ht.r.g.pk;obtain ⟨pz,capz,e3,hpz⟩:=ht.z.pk;obtain ⟨pl,capl,e5,hpl⟩:=ht.l.pk;have rf:=ht.r.fit;have zf:=ht.zf;have lf:=ht.lf;unfold tabL at hR;dsimp only at e1 e3 e5 hpr hpz hpl rf zf lf b1 b2 b3 b4 HR1 HR2 HR3 hR cr HTT ⊢;subst e1 e3 e5;obtain ⟨n,hn⟩:∃ n,n=rs.length:=⟨_,rfl⟩;obtain ⟨nz,hnz⟩:∃ nz,nz=zs.length:=⟨_,rfl⟩;obtain ⟨nl,hnl⟩:∃ nl,nl=ls.length:=⟨_,rfl⟩;rw [← hn] at b1 cr HTT ⊢;rw [← hnz] at b2 cr HTT ⊢;rw [← hnl] at b3 cr HTT ⊢;have HPR:=kj hpr;have HPZ:=kj hpz;have HPL:=kj hpl;have RF:=kj rf;have ZF:=kj zf;have LF:=kj lf;have HN:=kj hn;have HNZ:=kj hnz;have HNL:=kj hnl;have B4:=kj b4;have HRR:=kj hR;have CR:=kj cr;clear hpr hpz hpl rf zf lf hn hnz hnl b4 hR cr r1 r2 r3 ht;go_enter func92,ntmps92
 go_upto_region 3 with (go_at_call 144;refine (CR.out _ (HTT.out.later bcq)).mono ?_;rintro e w1 ⟨rfl,hb1⟩)
 have b1':Box w1 w.heap.size #[.slice p n cap,.slice pz nz capz,.slice pl nl capl] 26:=(Box.new w _ _).later hb1;have hB1:Below w.heap.size w w1:=bcq;have m1:=b1'.lt;clear hb1 HTT;have c1:=b1'.cell;go_wp2
 go_loopw [25,4] (fun i s wr=>∃ (k:Nat) (S:ByteArray),i=.int .i64 k∧s=.string S∧k≤n∧Below w1.heap.size w1 wr∧S.size≤k*512∧Hid (S=ofL (srcB ([]++(rs.map Ln.rule).take k)))) (fun i _ _=>n-(intOf i).toNat)
 case atStart=>exact ⟨0,⟨#[]⟩,rfl,rfl,Nat.zero_le _,Below.refl _ _,Nat.zero_le _,rfl⟩
 case round=>
  obtain ⟨k,S,rfl,rfl,hk,hbr,hS,HS⟩:=hrel;obtain ⟨w2,rfl⟩:∃ w2:World,w2=wr:=⟨_,rfl⟩;have hbw:Below w.heap.size w w2:=hB1.trans (hbr.mono hB1.size);have b2':=b1'.later hbr;have c2:=b2'.cell;have m2:=b2'.lt
  by_cases hlt:k<n
  ·obtain ⟨x,hx⟩:∃ x,rs[k]? =some x:=⟨_,List.getElem?_eq_getElem (by rw [← HN.out];exact hlt)⟩;obtain ⟨g1,o1,rfl,hg1,d1⟩:=HPR.out k x hx;have x0:=(hbw.cell (p:=⟨g1,o1+k*11+0,none⟩) hg1).trans (d1 0 _ rfl);have x1:=(hbw.cell (p:=⟨g1,o1+k*11+1,none⟩) hg1).trans (d1 1 _ rfl);have x2:=(hbw.cell (p:=⟨g1,o1+k*11+2,none⟩) hg1).trans (d1 2 _ rfl);have x3:=(hbw.cell (p:=⟨g1,o1+k*11+3,none⟩) hg1).trans (d1 3 _ rfl);have x4:=(hbw.cell (p:=⟨g1,o1+k*11+4,none⟩) hg1).trans (d1 4 _ rfl);have x5:=(hbw.cell (p:=⟨g1,o1+k*11+5,none⟩) hg1).trans (d1 5 _ rfl);have x6:=(hbw.cell (p:=⟨g1,o1+k*11+6,none⟩) hg1).trans (d1 6 _ rfl);have x7:=(hbw.cell (p:=⟨g1,o1+k*11+7,none⟩) hg1).trans (d1 7 _ rfl);have x8:=(hbw.cell (p:=⟨g1,o1+k*11+8,none⟩) hg1).trans (d1 8 _ rfl);have x9:=(hbw.cell (p:=⟨g1,o1+k*11+9,none⟩) hg1).trans (d1 9 _ rfl);have x10:=(hbw.cell (p:=⟨g1,o1+k*11+10,none⟩) hg1).trans (d1 10 _ rfl);rw [Nat.add_zero] at x0;have fx:=RF.out x (List.mem_of_getElem? hx);have rx:=HR1.out x (List.mem_of_getElem? hx);have hrx:(Ln.rule x).right=true:=rx;have cF:=fun X=>RRu.Fields x fx rx X;have cL:∀ (X:World) (v:Value),HoldsS X v (fieldsR x)→Calls prog 146 #[.string ⟨#[82,117,108,101]⟩,v] X fun e w'=>e=.returned (.string (ofL ((Ln.rule x).bytes++[10])))∧X=w':=fun X v h=>by
    have:=line h (by simp [fieldsR]) (by simp [fieldsR]) (clean_rule rx) ruleW (by decide);rw [line_rule] at this;exact this
   obtain ⟨hg,hgs⟩:=grow (N:=k) HS.out hS hrx;rw [← take_at (by rw [List.getElem?_map,hx];rfl)] at hg;have hbs:=bytes_size hrx;unfold RuleV.cells at cF;generalize ofL ((Ln.rule x).bytes++[10])=L at *;have cat1:=fun W=>run_string_add_sum (P:=prog) W S L (by omega);have t1:¬(9223372036854775807<S.size+L.size):=by omega
   have CF:=kj cF;have CL:=kj cL;have HG:=kj hg;have HGS:=kj hgs;clear d1 hx fx rx hrx cF cL hg hgs HS;have q1:(k:Int)<(n:Int):=by omega
   go_wp2_with (first
    |(go_at_call 145;refine (CF.out _).mono ?_;rintro e w3 ⟨v3,rfl,hv3,hb3⟩)
    |(go_at_call 146;refine (CL.out _ _ hv3).mono ?_;rintro e w' ⟨rfl,rfl⟩))
   go_roundw
   case rel=>exact ⟨k+1,S++L,by go_num,rfl,by omega,bcq,HGS.out,HG.out⟩
   case measure=>simp [intOf];omega
  ·obtain rfl:k=n:=by omega
   have hS1:S=ofL (srcB (rs.map Ln.rule++(zs.take 0).flatMap zoneL)):=by
    have:=HS.out;rw [List.take_of_length_le (by rw [List.length_map, ←HN.out];exact Nat.le_refl _),List.nil_append] at this;rw [this];simp
   have HS1:=kj hS1;clear hS1 HS;go_wp2
   go_loopw [42,4] (fun i s wr=>∃ (j:Nat) (S:ByteArray),i=.int .i64 j∧s=.string S∧j≤nz∧Below w2.heap.size w2 wr∧S.size≤(12+12*j)*512∧Hid (S=ofL (srcB (rs.map Ln.rule++(zs.take j).flatMap zoneL)))) (fun i _ _=>nz-(intOf i).toNat)
   case atStart=>exact ⟨0,S,rfl,rfl,Nat.zero_le _,Below.refl _ _,by omega,HS1.out⟩
   case round=>
    obtain ⟨j,S,rfl,rfl,hj,hbr2,hS,HS⟩:=hrel;obtain ⟨w4,rfl⟩:∃ w4:World,w4=wr:=⟨_,rfl⟩;have hbw4:Below w.heap.size w w4:=hbw.trans (hbr2.mono hbw.size);have b4':=b2'.later hbr2;have c4:=b4'.cell;have m4:=b4'.lt
    by_cases hlt4:j<nz
    ·obtain ⟨x,hx⟩:∃ x,zs[j]? =some x:=⟨_,List.getElem?_eq_getElem (by rw [← HNZ.out];exact hlt4)⟩;obtain ⟨g1,o1,rfl,hg1,d1⟩:=HPZ.out j x hx;have x0:=(hbw4.cell (p:=⟨g1,o1+j*2+0,none⟩) hg1).trans (d1 0 _ rfl);have x1:=(hbw4.cell (p:=⟨g1,o1+j*2+1,none⟩) hg1).trans (d1 1 _ rfl);rw [Nat.add_zero] at x0;have zfx:=ZF.out x (List.mem_of_getElem? hx);have rzx:=HR2.out x (List.mem_of_getElem? hx);have hel:=B4.out x (List.mem_of_getElem? hx);obtain ⟨rn,r0,re⟩:=zone_rights rzx;have hzl:=zoneL_len x;have hza:=fun (i:Nat) (e:EraV) (h:x.es[i]? =some e)=>zoneL_at h;have hnx:(zs.take (j+1)).flatMap zoneL=(zs.take j).flatMap zoneL++zoneL x:=by
      rw [List.take_add_one,hx,List.flatMap_append];simp
     obtain ⟨ZL,hZL⟩:∃ ZL,ZL=zoneL x:=⟨_,rfl⟩;rw [← hZL] at hzl hza hnx;obtain ⟨nm,xv,es⟩:=x;obtain ⟨pp,cc,hv⟩:=zfx.e.form;dsimp only at hv x0 x1 rn r0 re hel hzl hza;subst hv;have hns:nm.size≤64:=(clean_name rn).2;obtain ⟨m,hm⟩:∃ m,m=es.length:=⟨_,rfl⟩;have hef:=zfx.e.fit;have hee:=zfx.e;dsimp only at hef hee;rw [← hm] at r0 hel hzl x1 hee;have HEE:=kj hee;have HEF:=kj hef;have HRE:=kj re;have HZA:=kj hza;have HNX:=kj hnx;have HM:=kj hm;have HZLN:=kj hzl;have RN:=kj rn;clear d1 hx zfx rzx hza hnx hZL hm hef hee re hzl rn;have q1:(j:Int)<(nz:Int):=by omega
     go_upto_region 13 with fail
     obtain ⟨w5,hw5⟩:∃ V,V=w4.alloc (.cells #[.string nm,.slice pp m cc] 66):=⟨_,rfl⟩;have b5:Box w5 w4.heap.size #[.string nm,.slice pp m cc] 66:=by rw [hw5];exact Box.new _ _ _
     have hbw5:Below w.heap.size w w5:=by rw [hw5];exact hbw4.alloc (by omega) _
     have hb45:Below w4.heap.size w4 w5:=by rw [hw5];exact bcq
     rw [← hw5];clear hw5;have c5:=b5.cell;have m5:=b5.lt;go_wp2
     go_loopw [49,4] (fun i s wy=>∃ (i':Nat) (S:ByteArray),i=.int .i64 i'∧s=.string S∧i'≤m∧Below w5.heap.size w5 wy∧S.size≤(12+12*j+i')*512∧Hid (S=ofL (srcB ((rs.map Ln.rule++(zs.take j).flatMap zoneL)++ZL.take i')))) (fun i _ _=>m-(intOf i).toNat)
     case atStart=>exact ⟨0,S,rfl,rfl,Nat.zero_le _,Below.refl _ _,hS,by rw [List.take_zero,List.append_nil];exact HS.out⟩
     case round=>
      obtain ⟨i,S,rfl,rfl,hi,hbr5,hS,HS⟩:=hrel;obtain ⟨w6,rfl⟩:∃ w6:World,w6=wr:=⟨_,rfl⟩;have hbw6:Below w.heap.size w w6:=hbw5.trans (hbr5.mono hbw5.size);have b6:=b5.later hbr5;have c6:=b6.cell;have m6:=b6.lt
      by_cases hlti:i<m
      ·obtain ⟨e,he⟩:∃ e,es[i]? =some e:=⟨_,List.getElem?_eq_getElem (by rw [← HM.out];exact hlti)⟩;obtain ⟨g2,o2,cap2,e2,hg2,d2⟩:=(HEE.out.later hbw6).at he;rw [← HM.out] at e2;cases e2;have y0:=d2 0 _ rfl;have y1:=d2 1 _ rfl;have y2:=d2 2 _ rfl;have y3:=d2 3 _ rfl;have y4:=d2 4 _ rfl;have y5:=d2 5 _ rfl;have y6:=d2 6 _ rfl;have y7:=d2 7 _ rfl;have y8:=d2 8 _ rfl;have y9:=d2 9 _ rfl;have y10:=d2 10 _ rfl;have y11:=d2 11 _ rfl;have y12:=d2 12 _ rfl;rw [Nat.add_zero] at y0;have fe:=HEF.out e (List.mem_of_getElem? he);have rie:=HRE.out e (List.mem_of_getElem? he);have cF:=fun X=>RRe.Fields e fe rie X;have hza:=HZA.out i e he;unfold EraV.cells at cF;have q2:(i:Int)<(m:Int):=by omega
       by_cases hi0:i=0
       ·subst hi0;rw [if_pos rfl] at hza;have hrx:(Ln.zone nm e).right=true:=by
         show (decide (Nam.nameE nm=0)&&Er.rightB e)=true;rw [RN.out,rie];rfl
        have cL:∀ (X:World) (v:Value),HoldsS X v (fieldsE e)→Calls prog 146 #[.string (⟨#[90,111,110,101,32]⟩++nm),v] X fun e' w'=>e'=.returned (.string (ofL ((Ln.zone nm e).bytes++[10])))∧X=w':=fun X v h=>by
         have hfl:=fieldsE_len e;have:=line h (fun e0=>by rw [e0] at hfl;simp at hfl) (by omega) (clean_era rie) (⟨#[90,111,110,101,32]⟩++nm) (by rw [ByteArray.size_append];show 5+_≤_;omega);rw [line_zone] at this;exact this
        obtain ⟨hg,hgs⟩:=grow (N:=12+12*j+0) HS.out hS hrx;rw [← take_at hza] at hg;have hbs:=bytes_size hrx;generalize ofL ((Ln.zone nm e).bytes++[10])=L at *;have cat1:=fun W=>run_string_add_sum (P:=prog) W S L (by omega);have t1:¬(9223372036854775807<S.size+L.size):=by omega
        have cat2:=fun W=>run_string_add_sum (P:=prog) W ⟨#[90,111,110,101,32]⟩ nm (by show 5+_≤_;omega);have t2:¬(9223372036854775807<(⟨#[90,111,110,101,32]⟩:ByteArray).size+nm.size):=by show ¬(_ < 5+_);omega
        have CF:=kj cF;have CL:=kj cL;have HG:=kj hg;have HGS:=kj hgs;clear d2 he fe rie hza cF cL hg hgs HS hrx;simp only [Nat.zero_mul,Nat.add_zero] at y0 y1 y2 y3 y4 y5 y6 y7 y8 y9 y10 y11 y12
        go_wp2_with (first
         |(go_at_call 147;refine (CF.out _).mono ?_;rintro e' w7 ⟨v7,rfl,hv7,hb7⟩;have b7:=(b6.old).later hb7;have c7:=b7.cell;have m7:=b7.lt)
         |(go_at_call 146;refine (CL.out _ _ hv7).mono ?_;rintro e' w' ⟨rfl,rfl⟩))
        go_roundw
        case rel=>exact ⟨1,S++L,by go_num,rfl,by omega,bcq,HGS.out,HG.out⟩
        case measure=>simp [intOf];omega
       ·rw [if_neg hi0] at hza;have hrx:(Ln.more e).right=true:=rie;have cL:∀ (X:World) (v:Value),HoldsS X v (fieldsE e)→Calls prog 146 #[.string ⟨#[]⟩,v] X fun e' w'=>e'=.returned (.string (ofL ((Ln.more e).bytes++[10])))∧X=w':=fun X v h=>by
         have hfl:=fieldsE_len e;have:=line h (fun e0=>by rw [e0] at hfl;simp at hfl) (by omega) (clean_era rie) ⟨#[]⟩ (by decide);rw [line_more] at this;exact this
        obtain ⟨hg,hgs⟩:=grow (N:=12+12*j+i) HS.out hS hrx;rw [← take_at hza] at hg;have hbs:=bytes_size hrx;generalize ofL ((Ln.more e).bytes++[10])=L at *;have cat1:=fun W=>run_string_add_sum (P:=prog) W S L (by omega);have t1:¬(9223372036854775807<S.size+L.size):=by omega
        have q3:((i:Int)==0)=false:=by rw [beq_eq_false_iff_ne];omega
        have CF:=kj cF;have CL:=kj cL;have HG:=kj hg;have HGS:=kj hgs;clear d2 he fe rie hza cF cL hg hgs HS hrx
        go_wp2_with (first
         |(go_at_call 147;refine (CF.out _).mono ?_;rintro e' w7 ⟨v7,rfl,hv7,hb7⟩)
         |(go_at_call 146;refine (CL.out _ _ hv7).mono ?_;rintro e' w' ⟨rfl,rfl⟩))
        go_roundw
        case rel=>exact ⟨i+1,S++L,by go_num,rfl,by omega,bcq,HGS.out,HG.out⟩
        case measure=>simp [intOf];omega
      ·obtain rfl:i=m:=by omega
       have hS1:S=ofL (srcB (rs.map Ln.rule++(zs.take (j+1)).flatMap zoneL)):=by
        have:=HS.out;have eZ:ZL.take i=ZL:=List.take_of_length_le (by rw [HZLN.out];exact Nat.le_refl _);rw [eZ,List.append_assoc, ←HNX.out] at this;exact this
       have HS1:=kj hS1;have hb46:Below w4.heap.size w4 w6:=hb45.trans (hbr5.mono hb45.size);clear hS1 HS;go_wp2;go_roundw
       case rel=>exact ⟨j+1,S,by go_num,rfl,by omega,hbr2.trans (hb46.mono hbr2.size),by omega,HS1.out⟩
       case measure=>simp [intOf];omega
    ·obtain rfl:j=nz:=by omega
     have hS1:S=ofL (srcB ((rs.map Ln.rule++zs.flatMap zoneL)++(ls.map Ln.link).take 0)):=by
      have:=HS.out;rw [List.take_of_length_le (by rw [← HNZ.out];exact Nat.le_refl _)] at this;rw [this,List.take_zero,List.append_nil]
     have HS1:=kj hS1;clear hS1 HS;have hS2:S.size≤132*512:=by omega
     go_wp2
     go_loopw [77,4] (fun i s wy=>∃ (i':Nat) (S:ByteArray),i=.int .i64 i'∧s=.string S∧i'≤nl∧Below w4.heap.size w4 wy∧S.size≤(132+i')*512∧Hid (S=ofL (srcB ((rs.map Ln.rule++zs.flatMap zoneL)++(ls.map Ln.link).take i')))) (fun i _ _=>nl-(intOf i).toNat)
     case atStart=>exact ⟨0,S,rfl,rfl,Nat.zero_le _,Below.refl _ _,hS2,HS1.out⟩
     case round=>
      obtain ⟨i,S,rfl,rfl,hi,hbr5,hS,HS⟩:=hrel;have hbw6:Below w.heap.size w wr:=hbw4.trans (hbr5.mono hbw4.size)
      by_cases hlti:i<nl
      ·obtain ⟨x,hx⟩:∃ x,ls[i]? =some x:=⟨_,List.getElem?_eq_getElem (by rw [← HNL.out];exact hlti)⟩;obtain ⟨g1,o1,rfl,hg1,d1⟩:=HPL.out i x hx;have x0:=(hbw6.cell (p:=⟨g1,o1+i*2+0,none⟩) hg1).trans (d1 0 _ rfl);have x1:=(hbw6.cell (p:=⟨g1,o1+i*2+1,none⟩) hg1).trans (d1 1 _ rfl);rw [Nat.add_zero] at x0;have fx:=LF.out x (List.mem_of_getElem? hx);have rx:=HR3.out x (List.mem_of_getElem? hx);have hrx:(Ln.link x).right=true:=rx;have cF:=fun X=>RRk.Fields x fx rx X;have cL:∀ (X:World) (v:Value),HoldsS X v (fieldsK x)→Calls prog 146 #[.string ⟨#[76,105,110,107]⟩,v] X fun e w'=>e=.returned (.string (ofL ((Ln.link x).bytes++[10])))∧X=w':=fun X v h=>by
        have:=line h (by simp [fieldsK]) (by simp [fieldsK]) (clean_link rx) linkW (by decide);rw [line_link] at this;exact this
       obtain ⟨hg,hgs⟩:=grow (N:=132+i) HS.out hS hrx;rw [← take_at (by rw [List.getElem?_map,hx];rfl)] at hg;have hbs:=bytes_size hrx;unfold LinkV.cells at cF;generalize ofL ((Ln.link x).bytes++[10])=L at *;have cat1:=fun W=>run_string_add_sum (P:=prog) W S L (by omega);have t1:¬(9223372036854775807<S.size+L.size):=by omega
       have CF:=kj cF;have CL:=kj cL;have HG:=kj hg;have HGS:=kj hgs;clear d1 hx fx rx hrx cF cL hg hgs HS;have q1:(i:Int)<(nl:Int):=by omega
       go_wp2_with (first
        |(go_at_call 148;refine (CF.out _).mono ?_;rintro e w3 ⟨v3,rfl,hv3,hb3⟩)
        |(go_at_call 146;refine (CL.out _ _ hv3).mono ?_;rintro e w' ⟨rfl,rfl⟩))
       go_roundw
       case rel=>exact ⟨i+1,S++L,by go_num,rfl,by omega,bcq,HGS.out,HG.out⟩
       case measure=>simp [intOf];omega
      ·obtain rfl:i=nl:=by omega
       have hS1:S=R:=by
        rw [HS.out,HRR.out,List.take_of_length_le (by rw [List.length_map, ←HNL.out];exact Nat.le_refl _),List.append_assoc]
       subst hS1;go_wp2;go_ret2;exact ⟨rfl,hbw6⟩
end RWr
end
section
open Go.RowKit NB
namespace RdR
open Rd RWr
def Sm (a b:List ZoneV):Prop:=a.map (fun z=>(z.name,z.es))=b.map (fun z=>(z.name,z.es))
theorem Sm.snoc {a b:List ZoneV} {x y:ZoneV} (h:Sm a b) (h1:x.name=y.name) (h2:x.es=y.es):Sm (a++[x]) (b++[y]):=by
 unfold Sm at *;rw [List.map_append,List.map_append,h];simp [h1,h2]
theorem Sm.len {a b:List ZoneV} (h:Sm a b):a.length=b.length:=by
 have:=congrArg List.length h
 simpa using this
inductive St (t:TabV) (B p:Nat):World→Nat→List Ln→Prop where
 |a {W:World} {rs1 rs2:List RuleV} (hP:P1 W B p rs1) (hr:t.rs=rs1++rs2):St t B p W rs1.length (rs2.map .rule++(t.zs.flatMap zoneL++t.ls.map .link))
 |b {W:World} {F:Nat} {zs0 zs1 zs2:List ZoneV} {z:ZoneV} {v:Value} {ed more:List EraV} {es:List RowN} {y:RowN} {o:Int} {rv lv zv ev:Value} (hP:P2 W B F p t.rs (zs1++[⟨z.name,v,ed⟩]) (es++[y]) o rv lv zv ev)
    (hz:t.zs=zs0++z :: zs2) (hs:Sm zs1 zs0) (he:z.es=ed++more) (h0:ed≠[]) (ho:more≠[]→0<o) (ho2:more=[]→o=0) (hw:(es++[y]).map RowN.ns=Ck.upE t.rs.length (zs1++[⟨z.name,v,ed⟩])) (hl:es.length=zs1.length):
    St t B p W (t.rs.length+Ck.sumE (zs1++[⟨z.name,v,ed⟩])) (more.map .more++(zs2.flatMap zoneL++t.ls.map .link))
 |c {W:World} {F:Nat} {zs1:List ZoneV} {es:List RowN} {ls1 ls2:List LinkV} {ns:List Int} {rv lv zv ev kv nv:Value} (hP:P3 W B F p t.rs zs1 es ls1 ns rv lv zv ev kv nv) (hs:Sm zs1 t.zs) (hk:t.ls=ls1++ls2)
    (hw:es.map RowN.ns=Ck.upE t.rs.length zs1) (hn:ns=Ck.up (t.rs.length+Ck.sumE zs1) ls1.length):St t B p W (t.rs.length+Ck.sumE zs1+ls1.length) (ls2.map .link)
structure Fine1 (t:TabV):Prop where
 r:rightT t=true
 rf:∀ r∈t.rs,r.Fit
 lf:∀ l∈t.ls,l.Fit
 l1:t.rs.length≤12
 l2:t.zs.length≤10
 l3:t.ls.length≤16
 l4:∀ z∈t.zs,z.es.length≤12
theorem Fine1.parts {t:TabV} (h:Fine1 t):(∀ r∈t.rs,Rul.right r=true)∧(∀ z∈t.zs,zoneOk z=true)∧(∀ l∈t.ls,rightK l=true):=by
 have:=h.r;unfold rightT at this;rw [Bool.and_eq_true,Bool.and_eq_true,List.all_eq_true,List.all_eq_true,List.all_eq_true] at this;exact this
abbrev Post (t:TabV) (B p:Nat) (W:World) (k:Nat) (rest:List Ln) (e:Ending) (w':World):Prop:=e=.returned (.int .i64 0)∧St t B p w' (k+1) rest∧Fr B p W w'
theorem has_of {z:ZoneV} (h:zoneOk z=true) {ed more:List EraV} {e:EraV} (he:z.es=ed++e :: more):e.u.has=decide (more≠[]):=by
 unfold zoneOk at h;rw [Bool.and_eq_true] at h;obtain ⟨_,h1⟩:=Zn.zone_iff.1 h.2;have hat:z.es[ed.length]? =some e:=by rw [he];simp
 have:=h1 ed.length e (List.getElem?_eq_some_iff.1 hat).1 hat;unfold Zn.okAt at this;have:=(Bool.and_eq_true_iff.1 this).2;rw [beq_iff_eq] at this;dsimp only at this;rw [this];have hlen:z.es.length=ed.length+(more.length+1):=by rw [he];simp
 rw [hlen];cases more with
 |nil=>simp
 |cons a b=>simp
theorem stepZone {t:TabV} (hf:Fine1 t) {W:World} {B F p:Nat} {zs0 zs1 zs2:List ZoneV} {z:ZoneV} {es:List RowN} {rv lv zv ev:Value} (hP:P2 W B F p t.rs zs1 es 0 rv lv zv ev) (hpB:p<B) (hz:t.zs=zs0++z :: zs2) (hs:Sm zs1 zs0)
 (hw:es.map RowN.ns=Ck.upE t.rs.length zs1) (hl:es.length=zs1.length) {k:Nat} (hk:k=t.rs.length+Ck.sumE zs1) (hk2:k≤100000) {e:EraV} {more:List EraV} (he:z.es=e :: more):
 Calls prog 206 #[.pointer (some ⟨p,0,none⟩),.string (ofL (Ln.zone z.name e).bytes),.int .i64 ((k:Int)+1)] W (Post t B p W k (more.map .more++(zs2.flatMap zoneL++t.ls.map .link))):=by
 obtain ⟨_,hzo,_⟩:=hf.parts;have hzm:z∈t.zs:=by rw [hz];simp
 obtain ⟨rn,_,re⟩:=zone_rights (hzo z hzm);have hz0:zs1.length≤100:=by
  have h1:=hf.l2;rw [hz,List.length_append] at h1;have:=hs.len;omega
 refine (lineZone hP hpB hl hz0 z.name rn e (re e (by rw [he];simp)) ((k:Int)+1) (by omega) (by omega) _ rfl).mono ?_;rintro y w' ⟨rfl,⟨F',v',u',zv',ev',h9⟩,hfr⟩;refine ⟨rfl,?_,hfr⟩;have hh:=has_of (hzo z hzm) (ed:=[]) (e:=e) (more:=more) he;have:=St.b (t:=t) (more:=more) (ed:=[e]) h9 hz hs (by rw [he];rfl) (by simp) (fun h=>by rw [hh,decide_eq_true h,if_pos rfl];omega) (fun h=>by rw [hh,h];rfl) (by
  rw [List.map_append,hw,Ck.upE_snoc]
  congr 1
  show [[(k:Int)+1]]=[Ck.up (t.rs.length+Ck.sumE zs1) 1];rw [← hk,Ck.up_succ,Ck.up_zero];rfl) hl
 have hs2:=Ck.sumE_snoc zs1 (⟨z.name,v',[e]⟩:ZoneV);have e1:k+1=t.rs.length+Ck.sumE (zs1++[(⟨z.name,v',[e]⟩:ZoneV)]):=by rw [hs2,hk];rfl
 rw [e1];exact this
theorem stepLink {t:TabV} (hf:Fine1 t) {W:World} {B F p:Nat} {zs1:List ZoneV} {es:List RowN} {ls1 ls2:List LinkV} {ns:List Int} {rv lv zv ev kv nv:Value} {x:LinkV} (hP:P3 W B F p t.rs zs1 es ls1 ns rv lv zv ev kv nv) (hpB:p<B) (hs:Sm zs1 t.zs) (hx:t.ls=ls1++x :: ls2)
 (hw:es.map RowN.ns=Ck.upE t.rs.length zs1) (hn:ns=Ck.up (t.rs.length+Ck.sumE zs1) ls1.length) {k:Nat} (hk:k=t.rs.length+Ck.sumE zs1+ls1.length):
 Calls prog 206 #[.pointer (some ⟨p,0,none⟩),.string (ofL (Ln.link x).bytes),.int .i64 ((k:Int)+1)] W (Post t B p W k (ls2.map .link)):=by
 obtain ⟨_,_,hlo⟩:=hf.parts;have hxm:x∈t.ls:=by rw [hx];simp
 have hl1:ls1.length≤1000:=by
  have h1:=hf.l3;rw [hx,List.length_append] at h1;omega
 refine (lineLink hP hpB hl1 x (hf.lf x hxm) (hlo x hxm) ((k:Int)+1)).mono ?_;rintro y w' ⟨rfl,⟨kv',nv',h9⟩,hfr⟩;refine ⟨rfl,?_,hfr⟩;have:=St.c (t:=t) (ls2:=ls2) h9 hs (by rw [hx];simp) hw (by
  rw [hn,List.length_append,List.length_singleton,Ck.up_succ,hk];rfl)
 have e1:k+1=t.rs.length+Ck.sumE zs1+(ls1++[x]).length:=by rw [hk,List.length_append];rfl
 rw [e1];exact this
theorem step {t:TabV} (hf:Fine1 t) {W:World} {B p k:Nat} {x:Ln} {rest:List Ln} (hpB:p<B) (hBW:B≤W.heap.size) (hk:k≤100000) (h:St t B p W k (x :: rest)):
 Calls prog 206 #[.pointer (some ⟨p,0,none⟩),.string (ofL x.bytes),.int .i64 ((k:Int)+1)] W (Post t B p W k rest):=by
 obtain ⟨hro,hzo,hlo⟩:=hf.parts;have zone_next:∀ {F:Nat} {zs0 zs1:List ZoneV} {es:List RowN} {rv lv zv ev:Value} {zs2:List ZoneV},P2 W B F p t.rs zs1 es 0 rv lv zv ev→t.zs=zs0++zs2→Sm zs1 zs0→es.map RowN.ns=Ck.upE t.rs.length zs1→es.length=zs1.length→k=t.rs.length+Ck.sumE zs1→x :: rest=zs2.flatMap zoneL++t.ls.map .link→
  Calls prog 206 #[.pointer (some ⟨p,0,none⟩),.string (ofL x.bytes),.int .i64 ((k:Int)+1)] W (Post t B p W k rest):=by
  intro F zs0 zs1 es rv lv zv ev zs2 hP hz hs hw hl hk2 hL;cases zs2 with
  |nil=>
   rw [List.flatMap_nil,List.nil_append] at hL;rw [List.append_nil] at hz;cases hls:t.ls with
   |nil=>rw [hls] at hL;cases hL
   |cons l ls2=>
    rw [hls,List.map_cons] at hL;cases hL;have hs':Sm zs1 t.zs:=by rw [hz];exact hs
    exact stepLink hf (hP.to3) hpB hs' (ls1:=[]) (ls2:=ls2) (by rw [hls];rfl) hw rfl hk2
  |cons z zs2=>
   have hzm:z∈t.zs:=by rw [hz];simp
   obtain ⟨_,h0,_⟩:=zone_rights (hzo z hzm);cases he:z.es with
   |nil=>rw [he] at h0;cases h0
   |cons e more=>
    have hzl:zoneL z=.zone z.name e :: more.map .more:=by unfold zoneL;rw [he]
    rw [List.flatMap_cons,hzl,List.cons_append,List.cons_append,List.append_assoc] at hL;cases hL;exact stepZone hf hP hpB hz hs hw hl hk2 hk he
 generalize hL:x :: rest=L at h;cases h with
 | @a rs1 rs2 hP hr=>
   cases rs2 with
   |nil=>
    rw [List.append_nil] at hr;subst hr;obtain ⟨rv,lv,h2⟩:=hP.to2 hBW;exact zone_next (zs0:=[]) h2 rfl rfl rfl rfl rfl hL
   |cons r rs2=>
    rw [List.map_cons,List.cons_append] at hL;cases hL;have hrm:r∈t.rs:=by rw [hr];simp
    have hl1:rs1.length≤1000:=by
     have h1:=hf.l1;rw [hr,List.length_append] at h1;omega
    refine (lineRule hP hpB hBW hl1 r (hf.rf r hrm) (hro r hrm)).mono ?_;rintro y w' ⟨rfl,h9,hfr⟩;refine ⟨rfl,?_,hfr⟩;have:=St.a (t:=t) (rs2:=rs2) h9 (by rw [hr];simp);rw [List.length_append,List.length_singleton] at this;exact this
 | @b F zs0 zs1 zs2 z v ed more es y o rv lv zv ev hP hz hs he h0 ho ho2 hw hl=>
   cases more with
   |nil=>
    rw [List.map_nil,List.nil_append] at hL;have ho3:=ho2 rfl;subst ho3;rw [List.append_nil] at he;refine zone_next (zs0:=zs0++[z]) (zs2:=zs2) hP (by rw [hz];simp) (hs.snoc rfl he.symm) hw (by rw [List.length_append,List.length_append,hl];rfl) rfl hL
   |cons e more=>
    rw [List.map_cons,List.cons_append] at hL;cases hL;have hzm:z∈t.zs:=by rw [hz];simp
    obtain ⟨_,_,re⟩:=zone_rights (hzo z hzm);have hl4:=hf.l4 z hzm;have hed:ed.length+(more.length+1)=z.es.length:=by rw [he];simp
    have hz0:zs1.length≤1000:=by
     have h1:=hf.l2;rw [hz,List.length_append] at h1;have:=hs.len;omega
    have hy:y.ns=Ck.up (t.rs.length+Ck.sumE zs1) ed.length:=by
     rw [List.map_append,Ck.upE_snoc] at hw;have:=List.append_inj_right' hw (by simp)
     simpa using this
    refine (lineMore hP hpB (ho (by simp)) hz0 (by omega) (by show ed.length≤100;omega) (by rw [hy,Ck.up_len];omega) e (re e (by rw [he];simp)) (((t.rs.length+Ck.sumE (zs1++[(⟨z.name,v,ed⟩:ZoneV)]):Nat):Int)+1) (by omega) (by omega) _ rfl).mono ?_;rintro y' w' ⟨rfl,⟨v',u',h9⟩,hfr⟩;refine ⟨rfl,?_,hfr⟩;have hh:=has_of (hzo z hzm) he;have hsum:=Ck.sumE_snoc zs1 (⟨z.name,v,ed⟩:ZoneV);have hsum2:=Ck.sumE_snoc zs1 (⟨z.name,v',ed++[e]⟩:ZoneV);have hlen2:(⟨z.name,v',ed++[e]⟩:ZoneV).es.length=ed.length+1:=by simp
    have hlen1:(⟨z.name,v,ed⟩:ZoneV).es.length=ed.length:=rfl;have:=St.b (t:=t) (z:=z) (more:=more) (ed:=ed++[e]) h9 hz hs (by rw [he];simp) (by simp) (fun h=>by rw [hh,decide_eq_true h,if_pos rfl];omega) (fun h=>by rw [hh,h];rfl) (by
     rw [List.map_append,Ck.upE_snoc,hlen2,Ck.up_succ];rw [List.map_append,Ck.upE_snoc] at hw;have h1:=List.append_inj_left' hw (by simp);rw [h1]
     congr 1
     show [y.ns++[_]]=_;rw [hy,hsum,hlen1]
     congr 3
     omega) hl
    have e1:t.rs.length+Ck.sumE (zs1++[(⟨z.name,v,ed⟩:ZoneV)])+1=t.rs.length+Ck.sumE (zs1++[(⟨z.name,v',ed++[e]⟩:ZoneV)]):=by rw [hsum,hsum2,hlen1,hlen2];omega
    rw [e1];exact this
 | @c F zs1 es ls1 ls2 ns rv lv zv ev kv nv hP hs hk2 hw hn=>
   cases ls2 with
   |nil=>cases hL
   |cons l ls2=>
    rw [List.map_cons] at hL;cases hL;exact stepLink hf hP hpB hs hk2 hw hn rfl
end RdR
end
section
open Go.RowKit NB
namespace Ck
def bare (z:ZoneV):ZoneV:=⟨z.name,.slice none 0 0,z.es⟩
theorem sm_bare {a b:List ZoneV} (h:RdR.Sm a b):a.map bare=b.map bare:=by
 have e:∀ l:List ZoneV,l.map bare=(l.map (fun z=>(z.name,z.es))).map (fun p=>(⟨p.1,.slice none 0 0,p.2⟩:ZoneV)):=fun l=>by rw [List.map_map];rfl
 rw [e,e,h]
theorem whereB_bare (n:Nat) (zs:List ZoneV) (k:Nat) (rs:List Int) (es:List (List Int)) (ls:List Int):whereB n (zs.map bare) k rs es ls=whereB n zs k rs es ls:=by
 unfold whereB;rw [List.length_map,List.zip_map_left,List.all_map];rfl
theorem zoneFs_bare (l:List RuleV) (zs:List ZoneV) (ns:List (List Int)):zoneFs l (zs.map bare) ns=zoneFs l zs ns:=by
 unfold zoneFs;rw [List.zipIdx_map,List.flatMap_map]
 congr 1
 funext p
 obtain ⟨z,i⟩:=p;show eraFs l (((zs.map bare).take i).map ZoneV.name) _ _ _=_;rw [← List.map_take,List.map_map];rfl
theorem chk_bare (l:List RuleV) (zs:List ZoneV) (ls:List LinkV) (rs:List Int) (es:List (List Int)) (ns:List Int):chk l (zs.map bare) ls rs es ns=chk l zs ls rs es ns:=by
 unfold chk all;rw [whereB_bare,zoneFs_bare,List.map_map];rfl
theorem chk_sm {a b:List ZoneV} (h:RdR.Sm a b) (l:List RuleV) (ls:List LinkV) (rs:List Int) (es:List (List Int)) (ns:List Int):chk l a ls rs es ns=chk l b ls rs es ns:=by
 rw [← chk_bare l a,sm_bare h,chk_bare]
theorem sumE_bare:∀ zs:List ZoneV,sumE (zs.map bare)=sumE zs
 | []=>rfl
 |z :: r=>by
  show z.es.length+sumE (r.map bare)=z.es.length+sumE r;rw [sumE_bare r]
theorem upE_bare:∀ (m:Nat) (zs:List ZoneV),upE m (zs.map bare)=upE m zs
 |_,[]=>rfl
 |m,z :: r=>by
  show up m z.es.length :: upE (m+z.es.length) (r.map bare)=up m z.es.length :: upE (m+z.es.length) r;rw [upE_bare]
noncomputable def wrong (t:TabV):Fault:=chk t.rs t.zs t.ls (up 0 t.rs.length) (upE t.rs.length t.zs) (up (t.rs.length+sumE t.zs) t.ls.length)
theorem wrong_sm {t:TabV} {a:List ZoneV} (h:RdR.Sm a t.zs):chk t.rs a t.ls (up 0 t.rs.length) (upE t.rs.length a) (up (t.rs.length+sumE a) t.ls.length)=wrong t:=by
 unfold wrong;rw [chk_sm h, ←upE_bare _ a, ←sumE_bare a,sm_bare h,upE_bare,sumE_bare]
noncomputable def fitsT (t:TabV):Bool:=Eqs.lightT t&&(RWr.rightT t&&decide ((wrong t).2=0))
theorem light_parts {t:TabV} (h:Eqs.lightT t=true):Lgt.light t.rs=true∧t.zs.length≤10∧t.ls.length≤16∧(∀ z∈t.zs,Zn.lightZ z.name z.es=true)∧∀ l∈t.ls,Eqs.lightK l=true:=by
 unfold Eqs.lightT at h;simp only [Bool.and_eq_true,decide_eq_true_eq,List.all_eq_true] at h;obtain ⟨h1,h2,h3,h4,h5⟩:=h;exact ⟨h1,h2,h3,h4,h5⟩
theorem fits_parts {t:TabV} (h:fitsT t=true):Eqs.lightT t=true∧RWr.rightT t=true∧(wrong t).2=0:=by
 unfold fitsT at h;simp only [Bool.and_eq_true,decide_eq_true_eq] at h;exact h
theorem fits_fine {t:TabV} (h:fitsT t=true):Fine t.rs t.zs t.ls:=fine (fits_parts h).2.2
end Ck
end
section
open Go.RowKit NB
namespace Pt
def lo:Int:= -1096193779200
def hi:Int:=971890963199
def idx (L:List Int) (t:Int):Nat:=L.findIdx fun e=>decide (t<e)
theorem idx_cons (a:Int) (r:List Int) (t:Int):idx (a :: r) t=if t<a then 0 else idx r t+1:=by
 unfold idx;rw [List.findIdx_cons]
 by_cases h:t<a<;>simp [h]
theorem idx_le (L:List Int) (t:Int):idx L t≤L.length:=List.findIdx_le_length
theorem idx_ahead:∀ {L:List Int} {t:Int} {i:Nat} {s:Int},i<idx L t→L[i]? =some s→s≤t
 | [],_,_,_,h,_=>absurd h (by simp [idx])
 |a :: r,t,i,s,h,hs=>by
  rw [idx_cons] at h
  by_cases ha:t<a
  ·rw [if_pos ha] at h;omega
  ·rw [if_neg ha] at h;cases i with
   |zero=>simp only [List.getElem?_cons_zero,Option.some.injEq] at hs;omega
   |succ i=>exact idx_ahead (L:=r) (i:=i) (by omega) (by simpa using hs)
theorem idx_here:∀ {L:List Int} {t s:Int},L[idx L t]? =some s→t<s
 | [],_,_,h=>by simp at h
 |a :: r,t,s,h=>by
  rw [idx_cons] at h
  by_cases ha:t<a
  ·rw [if_pos ha] at h;simp only [List.getElem?_cons_zero,Option.some.injEq] at h;omega
  ·rw [if_neg ha] at h;exact idx_here (L:=r) (by simpa using h)
theorem idx_of:∀ {L:List Int} {t:Int} {i:Nat},i≤L.length→(∀ s,L[i]? =some s→t<s)→(∀ j s,j<i→L[j]? =some s→s≤t)→idx L t=i
 | [],t,i,h,_,_=>by simp only [List.length_nil,Nat.le_zero] at h;subst h;rfl
 |a :: r,t,0,_,h1,_=>by rw [idx_cons,if_pos (h1 a (by simp))]
 |a :: r,t,i+1,h,h1,h2=>by
  have:=h2 0 a (by omega) (by simp);rw [idx_cons,if_neg (by omega),idx_of (L:=r) (i:=i) (by simpa using h) (fun s hs=>h1 s (by simpa using hs)) (fun j s hj hs=>h2 (j+1) s (by omega) (by simpa using hs))]
structure GoodE (l:List RuleV) (es:List EraV):Prop where
 zone:Zn.zoneB es=true
 sort:(Zn.endsL l es).Pairwise (· < ·)
theorem pair_of {L:List Int} (h:∀ i s q,L[i+1]? =some s→L[i]? =some q→q<s):L.Pairwise (· < ·):=by
 induction L with
 |nil=>exact List.Pairwise.nil
 |cons a r ih=>
  have hr:=ih (fun i s q h1 h2=>h (i+1) s q (by simpa using h1) (by simpa using h2));refine List.pairwise_cons.2 ⟨fun s hs=> ?_,hr⟩;cases r with
  |nil=>cases hs
  |cons b r=>
   have hab:=h 0 b a (by simp) (by simp);rcases List.mem_cons.1 hs with rfl|hs
   ·exact hab
   ·have:=(List.pairwise_cons.1 hr).1 s hs;omega
theorem good_of {l:List RuleV} {es:List EraV} (h:Unt.checkU l es=(-1,0)):GoodE l es:=by
 cases hz:Zn.zoneB es
 ·rw [(Unt.check_form hz).1] at h;exact absurd h (by decide)
 ·obtain ⟨_,_,hc⟩:=Unt.check_zone (l:=l) hz;rcases hc with ⟨_,hb⟩|⟨j,s,e,hs,_⟩
  ·refine ⟨hz,pair_of fun i s q h1 h2=> ?_⟩;have hi:=(List.getElem?_eq_some_iff.1 h1).1;have:=hb (i+1) hi;unfold Unt.badAt at this;rw [h1] at this;simp only [Nat.zero_lt_succ,if_true,Nat.add_sub_cancel,h2,Option.getD_some] at this
   by_cases hle:s≤q
   ·rw [if_pos hle] at this;exact absurd this (by decide)
   ·omega
  ·rw [e] at h;have:=(Prod.mk.inj h).1;omega
theorem end_range {l:List RuleV} {es:List EraV} (hz:Zn.zoneB es=true) {i:Nat} {t:Int} (ht:(Zn.endsL l es)[i]? =some t):lo<t∧t≤hi:=by
 obtain ⟨e,f,_,_,hR,_,rfl,_,_⟩:=Unt.end_at hz ht;unfold Unt.instU lo hi;rw [if_pos hR];cases hh:e.u.has
 ·simp
 ·have hs:=Unt.right_spec hR;obtain ⟨⟨y1,y2⟩,hf,⟨s1,s2⟩,_,_,_⟩:=Unt.end_spec hh hs.2.1;have hd:=Occ.day_near hf (y:=e.u.year);have hm:=Day.fits_spec hf;have hc:=Cal.cum_bd e.u.year e.u.month hm.1 hm.2.1;have hl:=Cal.len_le e.u.year e.u.month;have hp:=Cal.lp_01 e.u.year;have a1:=Cal.ahead_mono (a:= -32766) (b:=e.u.year) (by omega);have a2:=Cal.ahead_mono (a:=e.u.year) (b:=32766) (by omega);rw [show Cal.ahead (-32766)= -12687063 by decide] at a1;rw [show Cal.ahead 32766=11248008 by decide] at a2;have hsv:=Unt.saved_bd (l:=l) hR (Unt.nomV e.u);have hsh: -64800≤Chn.shift e.off e.u.base (Unt.savedE l e (Unt.nomV e.u))∧Chn.shift e.off e.u.base (Unt.savedE l e (Unt.nomV e.u))≤64800:=by
   unfold Chn.shift
   split
   ·omega
   ·split<;>omega
  simp only [if_true];generalize Chn.shift e.off e.u.base (Unt.savedE l e (Unt.nomV e.u))=S at *;unfold Unt.nomV;generalize Day.dayI e.u.kind e.u.week e.u.day e.u.year e.u.month=D at *;unfold Cal.days at hd;omega
def zoneAt (t:TabV) (zone:Int):Option ZoneV:=if 0≤zone then t.zs[zone.toNat]? else none
def eraV (t:TabV) (zone at':Int):Int×Int:=match zoneAt t zone with
 |none=>(0,12)
 |some z=>if at'<lo∨hi<at' then (0,1) else (idx (Zn.endsL t.rs z.es) at',0)
noncomputable def valV (t:TabV) (zone at':Int):ValV×Int:=match zoneAt t zone with
 |none=>(⟨0,0,⟨#[]⟩⟩,12)
 |some z=>if at'<lo∨hi<at' then (⟨0,0,⟨#[]⟩⟩,1) else match z.es[idx (Zn.endsL t.rs z.es) at']? with
  |none=>(⟨0,0,⟨#[]⟩⟩,4)
  |some e=>Frc.atV t.rs e at'
theorem zone_mem {t:TabV} {zone:Int} {z:ZoneV} (h:zoneAt t zone=some z):0≤zone∧zone<t.zs.length∧t.zs[zone.toNat]? =some z∧z∈t.zs:=by
 unfold zoneAt at h
 by_cases h0:0≤zone
 ·rw [if_pos h0] at h;have:=(List.getElem?_eq_some_iff.1 h).1;exact ⟨h0,by omega,h,List.mem_of_getElem? h⟩
 ·rw [if_neg h0] at h;cases h
theorem zone_none {t:TabV} {zone:Int} (h:zone<0∨(t.zs.length:Int)≤zone):zoneAt t zone=none:=by
 unfold zoneAt
 by_cases h0:0≤zone
 ·rw [if_pos h0];exact List.getElem?_eq_none (by omega)
 ·rw [if_neg h0]
theorem zone_some {t:TabV} {zone:Int} (h0:0≤zone) (h1:zone<t.zs.length):∃ z,zoneAt t zone=some z∧t.zs[zone.toNat]? =some z:=by
 refine ⟨t.zs[zone.toNat]'(by omega),?_,by simp⟩;unfold zoneAt;rw [if_pos h0];simp
def GoodT (t:TabV):Prop:=∀ z∈t.zs,GoodE t.rs z.es
theorem fits_good {t:TabV} (h:Ck.fitsT t=true):GoodT t:=fun z hz=>good_of ((Ck.fits_fine h).eras z hz)
theorem era_in {l:List RuleV} {es:List EraV} (h:GoodE l es) (s:Int):idx (Zn.endsL l es) s<es.length:=by
 have:=Unt.ends_len (l:=l) h.zone;have:=idx_le (Zn.endsL l es) s;omega
theorem good_right {l:List RuleV} {es:List EraV} (h:GoodE l es) {i:Nat} {e:EraV} (he:es[i]? =some e):Er.rightB e=true:=by
 have hi:=(List.getElem?_eq_some_iff.1 he).1;have:=(Zn.zone_iff.1 h.zone).2 i e hi he;unfold Zn.okAt at this;simp only [Bool.and_eq_true] at this;exact this.1
theorem off_r {e:EraV} (h:Er.rightB e=true) {s:Int} (h0: -10800≤s) (h1:s≤10800) (x:ByteArray): -64800≤(Frc.valR e s x).off∧(Frc.valR e s x).off≤64800:=by
 have:=(Unt.right_spec h).1;show -64800≤wrap64 (e.off+s)∧wrap64 (e.off+s)≤64800;rw [show wrap64 (e.off+s)=e.off+s from by unfold wrap64;omega];omega
theorem off_bd {l:List RuleV} {e:EraV} (h:Er.rightB e=true) {s:Int} (h0:lo≤s) (h1:s≤hi): -64800≤(L33.AV l e s).off∧(L33.AV l e s).off≤64800:=by
 unfold lo at h0;unfold hi at h1
 by_cases hk:e.kind=2
 ·rw [L33.av_two h hk];have hm:Chn.may e.off=true:=Chn.may_iff.2 (Unt.right_spec h).1;have hl:=Frc.last_is (l:=l) hm (t:=s) (by omega) (by omega);unfold Frc.stateV;cases hp:Frc.lastP l e s with
  |none=>
   show -64800≤(Frc.firstV l e).off∧(Frc.firstV l e).off≤64800;unfold Frc.firstV
   split<;>exact off_r h (by decide) (by decide) _
  |some o=>
   rw [hp] at hl;obtain ⟨i,r,e1,_,hr,_,hR⟩:=Frc.rule_of hl.1;show -64800≤(Frc.valAt l e o.rule).off∧(Frc.valAt l e o.rule).off≤64800;rw [e1,Frc.val_rule hr];have:=(Rul.right_spec hR).2.2.2;exact off_r h this.1 this.2 _
 ·unfold L33.AV Frc.atV;rw [if_pos h,if_neg hk];exact off_r h (Unt.right_spec h).2.2.1.1 (Unt.right_spec h).2.2.1.2 _
theorem idx_mono {L:List Int} {s t:Int} (h:s≤t):idx L s≤idx L t:=by
 refine Nat.le_of_not_lt fun hn=> ?_;obtain ⟨x,hx⟩:∃ x,L[idx L t]? =some x:=⟨_,List.getElem?_eq_getElem (Nat.lt_of_lt_of_le hn (idx_le L s))⟩;have:=idx_here hx;have:=idx_ahead hn hx;omega
def zeroV:ValV:=⟨0,0,⟨#[]⟩⟩
theorem val_none {t:TabV} {zone:Int} (s:Int) (h:zoneAt t zone=none):valV t zone s=(zeroV,12)∧eraV t zone s=(0,12):=by
 unfold valV eraV;rw [h];exact ⟨rfl,rfl⟩
theorem val_out {t:TabV} {zone s:Int} {z:ZoneV} (h:zoneAt t zone=some z) (ho:s<lo∨hi<s):valV t zone s=(zeroV,1)∧eraV t zone s=(0,1):=by
 unfold valV eraV;rw [h];simp only;rw [if_pos ho,if_pos ho];exact ⟨rfl,rfl⟩
theorem val_in {t:TabV} {zone s:Int} {z:ZoneV} (h:zoneAt t zone=some z) (h0:lo≤s) (h1:s≤hi) {e:EraV} (he:z.es[idx (Zn.endsL t.rs z.es) s]? =some e):valV t zone s=Frc.atV t.rs e s∧eraV t zone s=(((idx (Zn.endsL t.rs z.es) s:Nat):Int),0):=by
 unfold valV eraV;rw [h];simp only;rw [if_neg (by omega),if_neg (by omega),he];exact ⟨rfl,rfl⟩
end Pt
end
end Go.Proofs.YtgmfojgnjdpofaaGreatDoor
