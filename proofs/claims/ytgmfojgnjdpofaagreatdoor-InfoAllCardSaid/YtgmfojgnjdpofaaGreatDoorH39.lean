import Derived.Test.YtgmfojgnjdpofaaGreatDoorH38
namespace Go.Proofs.YtgmfojgnjdpofaaGreatDoor
open Go.Proofs.Tryz
open Go.RowKit NB Nxt
namespace RUnt
open Unt
set_option maxRecDepth 100000 in
set_option maxHeartbeats 12800000 in
theorem Check {w:World} {v r:Value} {l:List RuleV} {es:List EraV} (hr:Holds w r l) (h:HoldsE w v es) (name:ByteArray) (hn:es.length≤100000) (hl:l.length≤12):Calls prog 263 #[r,.agg #[.string name,v]] w fun x w'=>x=.returned (.tuple #[.int .i64 (checkU l es).1,.int .i64 (checkU l es).2])∧Below w.heap.size w w':=by
 have hat:=fun (k:Nat) (e:EraV) (he:es[k]? =some e)=>h.at he;obtain ⟨p,cap,rfl⟩:=h.form;have ce:=fun W (h1:Holds W r l) (h:HoldsE W (.slice p es.length cap) es)=>Zn.REnds h1 h name hn;unfold checkU;have HE:=kj h;have HH:=kj hr;cases hz:Zn.zoneB es
 ·unfold Zn.EndsPost Zn.endsR Zn.endsE at ce;rw [hz] at ce;simp only [Bool.false_eq_true,if_false,List.length_nil] at ce;rw [if_neg (by decide)];have Ce:=kj ce;obtain ⟨rp,rc,rfl⟩:=hr.form;clear ce hz hat h hr;generalize es.length=n at *;generalize l.length=ln at *;go_enter func263,ntmps263
  go_wp2_with (go_at_call 72;(with_reducible refine (Ce.out _ ?_ ?_).mono ?_);(· exact HH.out.later bcq);(· exact HE.out.later bcq);rintro x w1 ⟨ev,rfl,hrow,hb1⟩)
  go_ret2;exact ⟨rfl,bcq⟩
 rw [if_pos rfl];have hel:=ends_len (l:=l) hz;have hea:=fun (i:Nat) (t:Int) ht=>end_at (l:=l) (i:=i) (t:=t) hz ht;unfold Zn.EndsPost Zn.endsR Zn.endsE at ce;rw [hz] at ce;simp only [if_true] at ce;generalize Zn.endsL l es=L at *;obtain ⟨m,hm⟩:∃ m,m=L.length:=⟨_,rfl⟩;rw [← hm] at ce hel ⊢;have cn:=fun (e:EraV) (hR:Er.rightB e=true) W (h:Holds W r l) (a b:Int) (ha0: -4000000000000≤a) (hab0:a≤b) (hab:b-a≤200000) (hb1:b≤4000000000000)=>near h e hR a b ha0 hab0 hab hb1 hl;obtain ⟨rp,rc,rfl⟩:=hr.form;have Ce:=kj ce;have Cn:=kj cn;have Hat:=kj hat;have Hea:=kj hea;have HM:=kj hm;obtain ⟨X,hX⟩:∃ X,X=first (badAt l es L) m 0:=⟨_,rfl⟩;rw [← hX];have HX:=kj hX;clear ce cn hat hea hz h hr hm hX;generalize es.length=n at *;generalize l.length=ln at *;go_enter func263,ntmps263
 go_upto_region 5 with (go_at_call 72;(with_reducible refine (Ce.out _ ?_ ?_).mono ?_);(· exact HH.out.later bcq);(· exact HE.out.later bcq);rintro x W0 ⟨ev,rfl,hrow,hb1⟩;obtain ⟨rq,rcc,hrv⟩:=Grp.own_form hrow;subst hrv)
 have kR:Box W0 w.heap.size #[.string name,.slice p n cap] 66:=(Box.new w _ _).later hb1;have hW0:Below w.heap.size w W0:=bcq;have hcell:0<m→∃ g,rq=some ⟨g,0,none⟩∧g<W0.heap.size∧∀ (j:Nat) (t:Int),L[j]? =some t→∀ u,Below W0.heap.size W0 u→u.cell? ⟨g,j,none⟩=some (.int .i64 t):=by
  intro h0;obtain ⟨g,⟨c1,hq⟩,_,l1,r1⟩:=Grp.own_cell (j:=0) hrow h0;simp only [Value.slice.injEq] at hq;exact ⟨g,hq.1,l1,fun j t ht u hu=>(hu.cell (p:=⟨g,j,none⟩) l1).trans (r1 _ _ (by unfold Zn.ints;rw [List.getElem?_map,ht];rfl))⟩
 have HB0:=kj hW0;have HG:=kj hcell;have HK:=kj kR;clear hW0 hcell hrow hb1 kR
 go_loopw [21] (fun i wr=>∃ k:Nat,i=.int .i64 k∧k≤m∧first (badAt l es L) (m-k) k=X∧Below W0.heap.size W0 wr) (fun i _=>m-(intOf i).toNat)
 case atStart=>exact ⟨0,rfl,Nat.zero_le _,HX.out.symm,Below.refl _ _⟩
 case round=>
  obtain ⟨k,rfl,hk,hfi,hbel⟩:=hrel;have hbx:=HK.out.later hbel;have r0:=hbx.cell;have u0:=hbx.lt;have HbW:=kj (HB0.out.trans (hbel.mono HB0.out.size));have Hbel:=kj hbel;clear hbx HX
  by_cases hlt:k<m
  ·rw [first_at hlt] at hfi;obtain ⟨g,rfl,hgl,hgc⟩:=HG.out (by omega);obtain ⟨t,ht⟩:∃ t,L[k]? =some t:=⟨L[k]'(by rw [← HM.out];exact hlt),by simp⟩;obtain ⟨e,f,he,hf,hRe,hRf, -,t0,t1⟩:=Hea.out k t ht;have x0:=hgc k t ht wr hbel;have hbn:=bad_near (l:=l) ht he hf;obtain ⟨b,off,cap',hq,hb,hcl⟩:=Hat.out k e he;simp only [Value.slice.injEq] at hq;obtain ⟨rfl, -,rfl⟩:=hq;obtain ⟨b',off',cap'',hq,hb',hcl'⟩:=Hat.out (k+1) f hf;simp only [Value.slice.injEq,Option.some.injEq,Addr.mk.injEq] at hq;obtain ⟨⟨rfl,rfl, -⟩, -, -⟩:=hq;have hd:∀ (j:Nat) (u:Value),e.cells[j]? =some u→wr.cell? ⟨b,off+k*13+j,none⟩=some u:=fun j u hu=>(HbW.out.cell (p:=⟨b,off+k*13+j,none⟩) hb).trans (hcl j u hu);have hd':∀ (j:Nat) (u:Value),f.cells[j]? =some u→wr.cell? ⟨b,off+(k+1)*13+j,none⟩=some u:=fun j u hu=>(HbW.out.cell (p:=⟨b,off+(k+1)*13+j,none⟩) hb).trans (hcl' j u hu);have c1:=fun W h=>Cn.out e hRe W h (t-172800) t (by omega) (by omega) (by omega) (by omega);have c2:=fun W h=>Cn.out f hRf W h t (t+172800) (by omega) (by omega) (by omega) (by omega);generalize nearB l e (t-172800) t=g1 at *;generalize nearB l f t (t+172800)=g2 at *;unfold EraV.cells at hd hd' c1 c2;have d0:=hd 0 _ rfl;have d1:=hd 1 _ rfl;have d2:=hd 2 _ rfl;have d3:=hd 3 _ rfl;have d4:=hd 4 _ rfl;have d5:=hd 5 _ rfl;have d6:=hd 6 _ rfl;have d7:=hd 7 _ rfl;have d8:=hd 8 _ rfl;have d9:=hd 9 _ rfl;have d10:=hd 10 _ rfl;have d11:=hd 11 _ rfl;have d12:=hd 12 _ rfl;have q0:=hd' 0 _ rfl;have q1:=hd' 1 _ rfl;have q2:=hd' 2 _ rfl;have q3:=hd' 3 _ rfl;have q4:=hd' 4 _ rfl;have q5:=hd' 5 _ rfl;have q6:=hd' 6 _ rfl;have q7:=hd' 7 _ rfl;have q8:=hd' 8 _ rfl;have q9:=hd' 9 _ rfl;have q10:=hd' 10 _ rfl;have q11:=hd' 11 _ rfl;have q12:=hd' 12 _ rfl;simp only [Nat.add_zero] at d0 q0;have C1:=kj c1;have C2:=kj c2;have Hbn:=kj hbn;have Hfi:=kj hfi;have Hgc:=kj hgc;have Ht:=kj ht;have hbW:b<wr.heap.size:=Nat.lt_of_lt_of_le hb HbW.out.size;have hgw:g<wr.heap.size:=Nat.lt_of_lt_of_le hgl Hbel.out.size;clear hd hd' hcl hcl' c1 c2 hbn hfi he hf hRe hRf hgc ht
   by_cases h0:0<k
   ·obtain ⟨j,rfl⟩:∃ j,k=j+1:=⟨k-1,by omega⟩;obtain ⟨y,hy⟩:∃ y,L[j]? =some y:=⟨L[j]'(by rw [← HM.out];omega),by simp⟩;have xy:=Hgc.out j y hy wr Hbel.out;have hk1:((j+1:Nat):Int)-1=(j:Int):=by omega
    obtain ⟨-, -, -, -, -, -, -,y0,y1⟩:=Hea.out j y hy
    by_cases h1:t≤y
    ·have hbad:=bad_14 (l:=l) (es:=es) Ht.out hy h1;clear hy hbel;have hX:=Hfi.out;rw [hbad,if_neg (by decide)] at hX;have HXX:=kj hX;clear hX hbad Hfi Hbn;go_wp2;have hbel:=HbW.out;go_ret2;exact ⟨by rw [← HXX.out];rfl,bcq⟩
    ·by_cases h2:t-y<345600
     ·have hbad:=bad_15 (l:=l) (es:=es) Ht.out hy h1 h2;clear hy hbel;have hX:=Hfi.out;rw [hbad,if_neg (by decide)] at hX;have HXX:=kj hX;clear hX hbad Hfi Hbn;go_wp2;have hbel:=HbW.out;go_ret2;exact ⟨by rw [← HXX.out];rfl,bcq⟩
     ·have hbad:=Hbn.out (.inr ⟨y,j,rfl,hy,h1,h2⟩);clear hy hbel;cases g1
      ·cases g2
       ·replace hbad:=hbad.trans (if_neg (by simp));have hX:=Hfi.out;rw [hbad,if_pos rfl] at hX;have HXX:=kj hX;clear hX hbad Hfi Hbn
        go_wp2_with (first
         |(go_at_call 295;(with_reducible refine (C1.out _ ?_).mono ?_);(· exact HH.out.later (bt HbW.out bcq));rintro e w2 ⟨rfl,hb2⟩;obtain ⟨hc2_0,hf2_0,hz2_0⟩:=bcs hb2 (g);obtain ⟨hc2_1,hf2_1,hz2_1⟩:=bcs hb2 (w.heap.size);obtain ⟨hc2_2,hf2_2,hz2_2⟩:=bcs hb2 (b))
         |(go_at_call 295;(with_reducible refine (C2.out _ ?_).mono ?_);(· exact HH.out.later (bt HbW.out bcq));rintro e w3 ⟨rfl,hb3⟩;obtain ⟨hc3_0,hf3_0,hz3_0⟩:=bcs hb3 (g);obtain ⟨hc3_1,hf3_1,hz3_1⟩:=bcs hb3 (w.heap.size)))
        have hbel:=Hbel.out;go_roundw
        case rel=>exact ⟨j+1+1,by go_num,hlt,HXX.out,bcq⟩
        case measure=>simp [intOf];omega
       ·replace hbad:=hbad.trans (if_pos (by simp));have hX:=Hfi.out;rw [hbad,if_neg (by decide)] at hX;have HXX:=kj hX;clear hX hbad Hfi Hbn
        go_wp2_with (first
         |(go_at_call 295;(with_reducible refine (C1.out _ ?_).mono ?_);(· exact HH.out.later (bt HbW.out bcq));rintro e w2 ⟨rfl,hb2⟩;obtain ⟨hc2_0,hf2_0,hz2_0⟩:=bcs hb2 (g);obtain ⟨hc2_1,hf2_1,hz2_1⟩:=bcs hb2 (w.heap.size);obtain ⟨hc2_2,hf2_2,hz2_2⟩:=bcs hb2 (b))
         |(go_at_call 295;(with_reducible refine (C2.out _ ?_).mono ?_);(· exact HH.out.later (bt HbW.out bcq));rintro e w3 ⟨rfl,hb3⟩;obtain ⟨hc3_0,hf3_0,hz3_0⟩:=bcs hb3 (g);obtain ⟨hc3_1,hf3_1,hz3_1⟩:=bcs hb3 (w.heap.size)))
        have hbel:=HbW.out;go_ret2;exact ⟨by rw [← HXX.out];rfl,bcq⟩
      ·replace hbad:=hbad.trans (if_pos (by simp));have hX:=Hfi.out;rw [hbad,if_neg (by decide)] at hX;have HXX:=kj hX;clear hX hbad Hfi Hbn
       go_wp2_with (first
        |(go_at_call 295;(with_reducible refine (C1.out _ ?_).mono ?_);(· exact HH.out.later (bt HbW.out bcq));rintro e w2 ⟨rfl,hb2⟩;obtain ⟨hc2_0,hf2_0,hz2_0⟩:=bcs hb2 (g);obtain ⟨hc2_1,hf2_1,hz2_1⟩:=bcs hb2 (w.heap.size);obtain ⟨hc2_2,hf2_2,hz2_2⟩:=bcs hb2 (b)))
       have hbel:=HbW.out;go_ret2;exact ⟨by rw [← HXX.out];rfl,bcq⟩
   ·have hbad:=Hbn.out (.inl (by omega));have h00:¬(0:Int)<k:=by omega
    clear hbel;cases g1
    ·cases g2
     ·replace hbad:=hbad.trans (if_neg (by simp));have hX:=Hfi.out;rw [hbad,if_pos rfl] at hX;have HXX:=kj hX;clear hX hbad Hfi Hbn
      go_wp2_with (first
       |(go_at_call 295;(with_reducible refine (C1.out _ ?_).mono ?_);(· exact HH.out.later (bt HbW.out bcq));rintro e w2 ⟨rfl,hb2⟩;obtain ⟨hc2_0,hf2_0,hz2_0⟩:=bcs hb2 (g);obtain ⟨hc2_1,hf2_1,hz2_1⟩:=bcs hb2 (w.heap.size);obtain ⟨hc2_2,hf2_2,hz2_2⟩:=bcs hb2 (b))
       |(go_at_call 295;(with_reducible refine (C2.out _ ?_).mono ?_);(· exact HH.out.later (bt HbW.out bcq));rintro e w3 ⟨rfl,hb3⟩;obtain ⟨hc3_0,hf3_0,hz3_0⟩:=bcs hb3 (g);obtain ⟨hc3_1,hf3_1,hz3_1⟩:=bcs hb3 (w.heap.size)))
      have hbel:=Hbel.out;go_roundw
      case rel=>exact ⟨k+1,by go_num,hlt,HXX.out,bcq⟩
      case measure=>simp [intOf];omega
     ·replace hbad:=hbad.trans (if_pos (by simp));have hX:=Hfi.out;rw [hbad,if_neg (by decide)] at hX;have HXX:=kj hX;clear hX hbad Hfi Hbn
      go_wp2_with (first
       |(go_at_call 295;(with_reducible refine (C1.out _ ?_).mono ?_);(· exact HH.out.later (bt HbW.out bcq));rintro e w2 ⟨rfl,hb2⟩;obtain ⟨hc2_0,hf2_0,hz2_0⟩:=bcs hb2 (g);obtain ⟨hc2_1,hf2_1,hz2_1⟩:=bcs hb2 (w.heap.size);obtain ⟨hc2_2,hf2_2,hz2_2⟩:=bcs hb2 (b))
       |(go_at_call 295;(with_reducible refine (C2.out _ ?_).mono ?_);(· exact HH.out.later (bt HbW.out bcq));rintro e w3 ⟨rfl,hb3⟩;obtain ⟨hc3_0,hf3_0,hz3_0⟩:=bcs hb3 (g);obtain ⟨hc3_1,hf3_1,hz3_1⟩:=bcs hb3 (w.heap.size)))
      have hbel:=HbW.out;go_ret2;exact ⟨by rw [← HXX.out];rfl,bcq⟩
    ·replace hbad:=hbad.trans (if_pos (by simp));have hX:=Hfi.out;rw [hbad,if_neg (by decide)] at hX;have HXX:=kj hX;clear hX hbad Hfi Hbn
     go_wp2_with (first
      |(go_at_call 295;(with_reducible refine (C1.out _ ?_).mono ?_);(· exact HH.out.later (bt HbW.out bcq));rintro e w2 ⟨rfl,hb2⟩;obtain ⟨hc2_0,hf2_0,hz2_0⟩:=bcs hb2 (g);obtain ⟨hc2_1,hf2_1,hz2_1⟩:=bcs hb2 (w.heap.size);obtain ⟨hc2_2,hf2_2,hz2_2⟩:=bcs hb2 (b)))
     have hbel:=HbW.out;go_ret2;exact ⟨by rw [← HXX.out];rfl,bcq⟩
  ·have hkm:k=m:=by omega
   rw [hkm,Nat.sub_self] at hfi;have HXX:=kj hfi;clear hfi hbel;go_wp2;go_ret2;exact ⟨by rw [← HXX.out];rfl,HbW.out⟩
end RUnt
end Go.Proofs.YtgmfojgnjdpofaaGreatDoor
