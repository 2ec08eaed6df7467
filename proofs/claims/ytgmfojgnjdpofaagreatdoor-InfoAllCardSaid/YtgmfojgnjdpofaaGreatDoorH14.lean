import Derived.Test.YtgmfojgnjdpofaaGreatDoorH13
import Derived.Test.YtgmfojgnjdpofaaGreatDoorH8
import Derived.Test.YtgmfojgnjdpofaaGreatDoorH5
namespace Go.Proofs.YtgmfojgnjdpofaaGreatDoor
open Go.Proofs.Tryz
section
open Go.RowKit NB Nxt
namespace RIn
theorem Right10 (a b:Int) (w:World):Calls prog 82 #[.agg #[.int .i64 a,.int .i64 b]] w fun e w'=>e=.returned (.bool (decide (a<b)))∧Below w.heap.size w w':=by
 go_enter func82,ntmps82;go_wp2;go_ret;exact ⟨rfl,bcq⟩
def cont (l:List RuleV) (name:ByteArray) (T:Int) (c:Option OccV) (m:Nat):List OccV:=match c,m with
 |some o,m+1=>if o.nom<T then o :: Occ.inL l name T o m else []
 |_,_=>[]
theorem inL_cont (l:List RuleV) (name:ByteArray) (T:Int) (fr:OccV) (m:Nat):Occ.inL l name T fr m=cont l name T (Occ.nextO l name fr) m:=by
 cases m with
 |zero=>unfold Occ.inL cont;cases Occ.nextO l name fr<;>rfl
 |succ m=>
  unfold Occ.inL cont;cases Occ.nextO l name fr<;>rfl
theorem all_i64 {l:List RuleV} {name:ByteArray} {o:OccV} (h:Occ.All l name l.length o):I64 o.nom:=by
 have:=Occ.all_bd h;unfold I64;omega
set_option maxRecDepth 100000 in
set_option maxHeartbeats 6400000 in
theorem In {v:Value} {l:List RuleV} {w:World} (hH:Holds w v l) (name:ByteArray) (fr tt most:Int) (hfr:I64 fr) (hmax:most≤100000):
 Calls prog 313 #[v,.string name,.agg #[.int .i64 fr,.int .i64 tt],.int .i64 most] w (All.RowPost w (All.inO l name fr tt most)):=by
 obtain ⟨p,cap,rfl⟩:=hH.form;have cs:=fun W=>Right10 fr tt W;unfold All.inO
 by_cases hlt:fr<tt
 ·rw [if_pos hlt];rw [show decide (fr<tt)=true by simpa using hlt] at cs;have cn0:=fun W (h:Holds W (.slice p l.length cap) l)=>RNxH.Next h name ⟨-1,0,fr⟩ hfr;have cn:=fun W (o:OccV) (ho:I64 o.nom) (h:Holds W (.slice p l.length cap) l)=>RNxH.Next h name o ho;obtain ⟨i1,y1,k1,eV,eC⟩:=All.opt_parts (Occ.nextO l name ⟨-1,0,fr⟩);rw [eV] at cn0;have hc0:=inL_cont l name tt ⟨-1,0,fr⟩ most.toNat;rw [hc0];obtain ⟨R,hR⟩:∃ R,R=cont l name tt (Occ.nextO l name ⟨-1,0,fr⟩) most.toNat:=⟨_,rfl⟩;rw [← hR];have hi0:∀ o,Occ.nextO l name ⟨-1,0,fr⟩=some o→I64 o.nom:=fun o ho=>all_i64 (Occ.next_all ho).1;have hi1:∀ o x,Occ.nextO l name o=some x→I64 x.nom:=fun o x hx=>all_i64 (Occ.next_all hx).1;obtain ⟨c0,hcc⟩:∃ c,c=Occ.nextO l name ⟨-1,0,fr⟩:=⟨_,rfl⟩;rw [← hcc] at cn0 hR hi0 eC;clear hcc hc0 eV;obtain ⟨g0,hg0⟩:∃ g,g=c0.isSome:=⟨_,rfl⟩;rw [← hg0] at cn0;unfold OccV.cells at cn0 cn;simp only at cn0;obtain ⟨j0,hj0,hz0,hz1,hz2⟩:=info_parts All.info_occ;have HH:=kj hH;have Cs:=kj cs;have Cn0:=kj cn0;have Cn:=kj cn;have HR:=kj hR;have Hi0:=kj hi0;have Hi1:=kj hi1;have Hg0:=kj hg0;have EC:=kj eC;clear hH cs cn0 cn hR hi0 hi1 hg0 eC;obtain ⟨len,hlen⟩:∃ n,n=l.length:=⟨_,rfl⟩;rw [← hlen] at HH Cn0 Cn ⊢;clear hlen;go_enter func313,ntmps313
  go_wp2_with (first
   |(go_at_call 82;(with_reducible refine (Cs.out _).mono ?_);rintro e w1 ⟨rfl,hb1⟩;obtain ⟨hc1_0,hf1_0,hz1_0⟩:=bcs hb1 (w.heap.size))
   |(go_at_call 192;(with_reducible refine (Cn0.out _ ?_).mono ?_);(· exact HH.out.later bcq);rintro e w2 ⟨rfl,hb2⟩;obtain ⟨hc2_0,hf2_0,_⟩:=bcs hb2 (w.heap.size)))
  obtain ⟨q,hq⟩:∃ q,q=w2.heap.size:=⟨_,rfl⟩;obtain ⟨V,hV⟩:∃ V,V=w2.alloc (.cells #[.int .i64 i1,.int .i64 y1,.int .i64 k1] 156):=⟨_,rfl⟩;have hqV:q<V.heap.size:=by rw [hV,hq];simp
  have hBV:Below w.heap.size w V:=by rw [hV];exact bcq
  have bq:Box V q (All.optC c0) 156:=by rw [hV,hq,EC.out];exact Box.new _ _ _
  have bs:Box V w.heap.size #[.int .i64 fr,.int .i64 tt] 40:=by rw [hV];exact bxq
  have hwq:w.heap.size<q:=by rw [hq];exact Nat.lt_of_lt_of_le hz1_0 hb2.size
  rw [← hq, ←hV];clear hV hq hb1 hb2 hc1_0 hf1_0 hc2_0 hf2_0;obtain ⟨N,hN⟩:∃ N,N=V.heap.size:=⟨_,rfl⟩;have hqN:q<N:=by omega
  have hVN:N≤V.heap.size:=by omega
  clear hN;have HBV:=kj hBV;have Hbq:=kj bq;have Hbs:=kj bs;clear hBV bq bs
  go_loopw [9,11] (fun out m wr=>∃ (L:List OccV) (c:Option OccV) (p:Option Addr) (cap:Nat),out=.slice p L.length cap∧m=.bool c.isSome∧wr.ownsRow N 156 3 (.slice p L.length cap) L.length (L.flatMap OccV.cells)∧L.length≤most.toNat∧R=L++cont l name tt c (most.toNat-L.length)∧Box wr q (All.optC c) 156∧Box wr w.heap.size #[.int .i64 fr,.int .i64 tt] 40∧Below w.heap.size w wr∧N≤wr.heap.size∧(∀ o,c=some o→I64 o.nom)) (fun out _ _=>match out with|.slice _ k _=>most.toNat-k|_=>0)
  case atStart=>exact ⟨[],c0,none,0,rfl,by rw [Hg0.out],World.ownsRow_nil _ _ _ _,Nat.zero_le _,by rw [HR.out];rfl,Hbq.out,Hbs.out,HBV.out,hVN,Hi0.out⟩
  case round=>
   obtain ⟨L,c,sp,sc,rfl,rfl,hown,hLm,hRe,hbq,hbs,hB,hNs,hci⟩:=hrel;have s1:=hbs.cell 1;have hsl:=hbs.lt;cases c with
   |none=>
    have hRL:R=L:=by rw [hRe];unfold cont;simp
    have Hown:=kj hown;have HB:=kj hB;clear hown hB hRe hbq hci;go_wp2;go_ret;exact ⟨_,rfl,by first|exact All.own_mono Hown.out (by omega)|(rw [hRL];exact All.own_mono Hown.out (by omega)),HB.out⟩
   |some o=>
    have e0:=hbq.cell 0;have e1:=hbq.cell 1;have e2:=hbq.cell 2;unfold All.optC at e0 e1 e2;rw [show (some o).isSome=true from rfl];have Hown:=kj hown;have HB:=kj hB;have Hbq1:=kj hbq;have Hbs1:=kj hbs;have HRe:=kj hRe;have hoi:=hci o rfl;have Hoi:=kj hoi;clear hown hB hbq hbs hRe hci hoi
    by_cases hn:o.nom<tt
    ·by_cases hm:L.length<most.toNat
     ·have hm':(L.length:Int)<most:=by omega
      obtain ⟨i2,y2,k2,eV2,eC2⟩:=All.opt_parts (Occ.nextO l name o);have cn2:=fun W (h:Holds W (.slice p len cap) l)=>Cn.out W o Hoi.out h;rw [eV2] at cn2;obtain ⟨g2,hg2⟩:∃ g,g=(Occ.nextO l name o).isSome:=⟨_,rfl⟩;rw [← hg2] at cn2;have Cn2:=kj cn2;have Hg2:=kj hg2;have Ec2:=kj eC2;have hqr:q<wr.heap.size:=Hbq1.out.lt;clear cn2 hg2 eC2 eV2
      go_wp2_with (first
       |(at_builtin;refine wpList_append_own _ (by rfl) _ _ 268 (by rfl) N 156 j0 _ 3 24 underlying268 hj0 hz0 hz1 hz2 (by rfl) (by decide) _ L.length _ (by rfl) (Hown.out.alloc _) ⟨wr.heap.size,0,none⟩ 1 1 [.int .i64 o.rule,.int .i64 o.year,.int .i64 o.nom] (by rfl) (by rfl) (All.news_box (cs:=#[.int .i64 o.rule,.int .i64 o.year,.int .i64 o.nom]) (t:=156) (Box.new _ _ _)) ?_ ?_ ?_ ?_ ?_;(· intro u hu;simp only [List.mem_cons,List.not_mem_nil,or_false] at hu;rcases hu with rfl|rfl|rfl<;>rfl);(· unfold maxLen;omega);(· omega);(· simp;omega);intro v' w4 hown' hgrow _;obtain ⟨g4,cap4,rfl⟩:=ownsRow_succ hown';have hx4:Box w4 q #[.int .i64 o.rule,.int .i64 o.year,.int .i64 o.nom] 156:=ROcc.Box.grown (Box.old Hbq1.out) hgrow (ROcc.own_row Hown.out) hqN;have hs4:Box w4 w.heap.size #[.int .i64 fr,.int .i64 tt] 40:=ROcc.Box.grown (Box.old Hbs1.out) hgrow (ROcc.own_row Hown.out) (by omega);have hb4:Below w.heap.size w w4:=(ba HB.out).grown hgrow (ba HB.out).size (fun j e=>by have:=ROcc.own_row Hown.out j e;omega);have z0:=hx4.cell 0;have z1:=hx4.cell 1;have z2:=hx4.cell 2;have hz4:q<w4.heap.size:=hx4.lt)
       |(go_at_call 192;(with_reducible refine (Cn2.out _ ?_).mono ?_);(· exact HH.out.later hb4);rintro e w5 ⟨rfl,hb5⟩;have hx5:=hx4.later hb5;have zf:=fun o=>hx5.free o;have yy0:=hx5.cell 0;have yy1:=hx5.cell 1;have yy2:=hx5.cell 2))
      have hN4:N≤w4.heap.size:=by
       have h1:=hgrow.size;simp only [World.size_alloc] at h1;omega
      have hx6:Box (((w5.setCell ⟨q,0,none⟩ (.int .i64 i2)).setCell ⟨q,1,none⟩ (.int .i64 y2)).setCell ⟨q,2,none⟩ (.int .i64 k2)) q (All.optC (Occ.nextO l name o)) 156:=by rw [Ec2.out];exact hx5.set3
      have hs6:Box (((w5.setCell ⟨q,0,none⟩ (.int .i64 i2)).setCell ⟨q,1,none⟩ (.int .i64 y2)).setCell ⟨q,2,none⟩ (.int .i64 k2)) w.heap.size #[.int .i64 fr,.int .i64 tt] 40:=(((hs4.later hb5).other (by omega)).other (by omega)).other (by omega);have hw6:Below w.heap.size w (((w5.setCell ⟨q,0,none⟩ (.int .i64 i2)).setCell ⟨q,1,none⟩ (.int .i64 y2)).setCell ⟨q,2,none⟩ (.int .i64 k2)):=bset (bset (bset (bt hb4 hb5) (by omega)) (by omega)) (by omega);have hgs:∀ (X:World) (j:Nat) (u:Value),X.ownsRow N 156 3 (.slice (some ⟨g4,0,none⟩) (L.length+1) cap4) (L.length+1) (L.flatMap OccV.cells++[.int .i64 o.rule,.int .i64 o.year,.int .i64 o.nom])→(X.setCell ⟨q,j,none⟩ u).ownsRow N 156 3 (.slice (some ⟨g4,0,none⟩) (L.length+1) cap4) (L.length+1) (L.flatMap OccV.cells++[.int .i64 o.rule,.int .i64 o.year,.int .i64 o.nom]):=
       fun X j u h=>h.kept (All.grown_set X q j u) (.inr (All.row_not h hqN).symm)
      have ho6:=hgs _ 2 (.int .i64 k2) (hgs _ 1 (.int .i64 y2) (hgs _ 0 (.int .i64 i2) (ROcc.own_later hown' hb5)));have hN6:N≤(((w5.setCell ⟨q,0,none⟩ (.int .i64 i2)).setCell ⟨q,1,none⟩ (.int .i64 y2)).setCell ⟨q,2,none⟩ (.int .i64 k2)).heap.size:=by
       have:=hb5.size;simp;omega
      have hlx:(L++[o]).length=L.length+1:=by simp
      have hfl:L.flatMap OccV.cells++[.int .i64 o.rule,.int .i64 o.year,.int .i64 o.nom]=(L++[o]).flatMap OccV.cells:=by simp [OccV.cells]
      have hRR:R=(L++[o])++cont l name tt (Occ.nextO l name o) (most.toNat-(L++[o]).length):=by
       rw [HRe.out,hlx, ←inL_cont];obtain ⟨d,hd⟩:∃ d,most.toNat-L.length=d+1:=⟨most.toNat-L.length-1,by omega⟩;rw [hd,show most.toNat-(L.length+1)=d by omega];show L++(if o.nom<tt then o :: Occ.inL l name tt o d else [])=_;rw [if_pos hn];simp
      go_roundw
      case rel=>
       refine ⟨L++[o],Occ.nextO l name o,some ⟨g4,0,none⟩,cap4,by rw [hlx],by rw [Hg2.out],?_,by rw [hlx];omega,hRR,hx6,hs6,hw6,hN6,Hi1.out o⟩;rw [hlx, ←hfl];exact ho6
      case measure=>simp;omega
     ·have hRL:R=L:=by
       rw [HRe.out,show most.toNat-L.length=0 by omega];unfold cont;simp
      have hm':most≤(L.length:Int)∨False:=by omega
      replace hm':most≤(L.length:Int):=by omega
      go_wp2;go_ret;exact ⟨_,rfl,by first|exact All.own_mono Hown.out (by omega)|(rw [hRL];exact All.own_mono Hown.out (by omega)),HB.out⟩
    ·have hRL:R=L:=by
      rw [HRe.out];unfold cont;cases most.toNat-L.length with
      |zero=>simp
      |succ d=>simp only;rw [if_neg hn];simp
     go_wp2;go_ret;exact ⟨_,rfl,by first|exact All.own_mono Hown.out (by omega)|(rw [hRL];exact All.own_mono Hown.out (by omega)),HB.out⟩
 ·rw [if_neg hlt];rw [show decide (fr<tt)=false by simpa using hlt] at cs;have Cs:=kj cs;clear cs;go_enter func313,ntmps313
  go_wp2_with (go_at_call 82;(with_reducible refine (Cs.out _).mono ?_);rintro e w1 ⟨rfl,hb1⟩;obtain ⟨hc1_0,hf1_0,hz1_0⟩:=bcs hb1 (w.heap.size))
  go_ret;exact ⟨_,rfl,World.ownsRow_nil _ _ _ _,bcq⟩
theorem occ_len (o:OccV):o.cells.length=3:=rfl
end RIn
end
section
open Go.RowKit NB Nxt
namespace Zn
theorem info_i64:(prog.info? 2).map (fun i=>(i.zero,i.size,i.bytes))=some (some (.int .i64 0),1,8):=by kernel_rfl
def ints (L:List Int):List Value:=L.map fun t=>.int .i64 t
def endsL (l:List RuleV) (es:List EraV):List Int:=(es.filter fun e=>e.u.has).map fun e=>(Unt.instU l e).1
def endsR (l:List RuleV) (es:List EraV):List Int:=if zoneB es then endsL l es else []
def endsE (es:List EraV):Int:=if zoneB es then 0 else 4
theorem endsL_succ {l:List RuleV} {es:List EraV} {k:Nat} {e:EraV} (he:es[k]? =some e):endsL l (es.take (k+1))=endsL l (es.take k)++(if e.u.has then [(Unt.instU l e).1] else []):=by
 unfold endsL;rw [List.take_add_one,he,List.filter_append,List.map_append];cases h:e.u.has<;>simp [h]
theorem endsL_len (l:List RuleV) (es:List EraV) (k:Nat):(endsL l (es.take k)).length≤k:=by
 unfold endsL;rw [List.length_map];refine Nat.le_trans (List.length_filter_le _ _) ?_;rw [List.length_take];exact Nat.min_le_left _ _
theorem own_later {w w':World} {B:Nat} {e:TypeId} {sz n:Nat} {v:Value} {xs:List Value} (h:w.ownsRow B e sz v n xs) (hb:Below w.heap.size w w'):w'.ownsRow B e sz v n xs:=
 h.kept ⟨hb.os,hb.tape,hb.output,hb.size,fun k hk _=>hb.block k hk⟩ (by cases v.ownBlock<;>simp:v.ownBlock=none∨v.ownBlock≠none)
def EndsPost (w:World) (l:List RuleV) (es:List EraV) (x:Ending) (w':World):Prop:=∃ v,x=.returned (.tuple #[v,.int .i64 (endsE es)])∧w'.ownsRow w.heap.size 2 1 v (endsR l es).length (ints (endsR l es))∧Below w.heap.size w w'
set_option maxRecDepth 100000 in
set_option maxHeartbeats 6400000 in
theorem Ends {w:World} {v r:Value} {l:List RuleV} {es:List EraV} (hr:Holds w r l) (h:HoldsE w v es) (name:ByteArray) (hn:es.length≤100000) (ht:Tab w):Calls prog 94 #[r,.agg #[.string name,v]] w (EndsPost w l es):=by
 have hat:=fun (k:Nat) (e:EraV) (he:es[k]? =some e)=>h.at he;have hfit:=h.fit;obtain ⟨p,cap,rfl⟩:=h.form;obtain ⟨j0,hj0,hz0,hz1,hz2⟩:=info_parts info_i64;have cr:=fun (e:EraV) (he:e.Fit) W h=>Er.Right e he W h;have ci:=fun (e:EraV) (he:e.Fit) W (h:Holds W r l) h'=>Unt.Instant h e he h';have hll:∀ k:Nat,k<es.length→∃ e,es[k]? =some e:=fun k hk=>⟨es[k],by simp⟩;have hzn:=fun (k:Nat) (e:EraV) (he:es[k]? =some e)=>zone_not (k:=k) he;have hok:∀ k,k=es.length→OkTo es k→0<es.length→zoneB es=true:=fun k hk ho h0=>zone_iff.2 ⟨h0,hk ▸ ho⟩;have hz0':es.length=0→zoneB es=false:=fun h0=>by unfold zoneB;simp [h0]
 have hsc:=fun (k:Nat) (ho:OkTo es k) (e:EraV) (he:es[k]? =some e)=>ho.succ he;have hfin:∀ k,k=es.length→endsL l (es.take k)=endsL l es:=fun k hk=>by rw [hk,List.take_length]
 obtain ⟨rp,rc,rfl⟩:=hr.form;unfold EndsPost endsR endsE;generalize zoneB es=zb at *;generalize es.length=n at *;have Hat:=kj hat;have Hft:=kj hfit;have HLL:=kj hll;have Hzn:=kj hzn;have Hok:=kj hok;have Hz0:=kj hz0';have Hsc:=kj hsc;have Hfin:=kj hfin;have Cr:=kj cr;have Ci:=kj ci;have HH:=kj hr;have HT:=kj ht;clear hat hfit hll hzn hok hsc cr ci h hr ht hfin hz0';generalize l.length=ln at *;go_enter func94,ntmps94;go_wp2;obtain ⟨V,hV⟩:∃ V,V=w.alloc (.cells #[.string name,.slice p n cap] 66):=⟨_,rfl⟩;have hBV:Below w.heap.size w V:=by rw [hV];exact ba (Below.refl _ _)
 rw [← hV];clear hV
 go_loopw [19,6] (fun z out wr=>∃ (k:Nat) (q:Option Addr) (c:Nat),z=.int .i64 k∧k≤n∧OkTo es k∧out=.slice q (endsL l (es.take k)).length c∧wr.ownsRow w.heap.size 2 1 (.slice q (endsL l (es.take k)).length c) (endsL l (es.take k)).length (ints (endsL l (es.take k)))∧Below w.heap.size w wr) (fun z _ _=>n-(intOf z).toNat)
 case atStart=>exact ⟨0,none,0,rfl,Nat.zero_le _,fun j e hj=>absurd hj (Nat.not_lt_zero _),rfl,World.ownsRow_nil _ _ _ _,hBV⟩
 case round=>
  clear hBV;obtain ⟨k,q,c,rfl,hk,hto,rfl,hown,hbel⟩:=hrel;have hLk:=endsL_len l es k;have Hto:=kj hto;have Hbel:=kj hbel;have hbs:=hbel.size
  by_cases hlt:k<n
  ·obtain ⟨e,he⟩:=HLL.out k hlt;have hes:=endsL_succ (l:=l) he;generalize endsL l (es.take k)=L at *;have Hown:=kj hown;have HES:=kj hes;clear hto hbel hown hes;obtain ⟨b,off,cap',hq,hb,hcl⟩:=Hat.out k e he;simp only [Value.slice.injEq] at hq;obtain ⟨rfl, -, -⟩:=hq;have cr:=fun W h=>Cr.out e (Hft.out e (List.mem_of_getElem? he)) W h;have ci:=fun W h h'=>Ci.out e (Hft.out e (List.mem_of_getElem? he)) W h h';have hsc:=Hsc.out k Hto.out e he;have hzn:=Hzn.out k e he;unfold okAt at hsc hzn;simp only at hsc hzn;have hi:Er.rightB e=true→(Unt.instU l e).2=if e.u.has then 0 else 12:=by
    intro h;unfold Unt.instU;rw [if_pos h]
    split<;>rfl
   generalize Er.rightB e=g at *;generalize (Unt.instU l e).1=t at *;generalize (Unt.instU l e).2=tw at *;have hd:∀ (j:Nat) (u:Value),e.cells[j]? =some u→wr.cell? ⟨b,off+k*13+j,none⟩=some u:=fun j u hu=>(Hbel.out.cell (p:=⟨b,off+k*13+j,none⟩) hb).trans (hcl j u hu);unfold EraV.cells at hd cr ci;have d0:=hd 0 _ rfl;have d1:=hd 1 _ rfl;have d2:=hd 2 _ rfl;have d3:=hd 3 _ rfl;have d4:=hd 4 _ rfl;have d5:=hd 5 _ rfl;have d6:=hd 6 _ rfl;have d7:=hd 7 _ rfl;have d8:=hd 8 _ rfl;have d9:=hd 9 _ rfl;have d10:=hd 10 _ rfl;have d11:=hd 11 _ rfl;have d12:=hd 12 _ rfl;simp only [Nat.add_zero] at d0;clear hd hcl he hb;generalize e.u.has=has at *;have CR:=kj cr;have CI:=kj ci;have HI:=kj hi;clear cr ci hi;have hki:((k:Int)<n-1)↔(k+1<n):=by omega
   cases g<;>cases has<;>by_cases hkn:k+1<n
   all_goals
    first
     |have hki2:decide ((k:Int)<n-1)=true:=by rw [decide_eq_true_eq];exact hki.2 hkn
     |have hki2:decide ((k:Int)<n-1)=false:=by rw [decide_eq_false_iff_not];exact fun h=>hkn (hki.1 h)
    clear hki
    first
     |(have hz:=hzn (by simp [hkn])
       subst hz;clear hsc hzn
       go_wp2_with (go_at_call 96;(with_reducible refine (CR.out _ ?_).mono ?_);(· exact HT.out.later (bt Hbel.out bcq));rintro e w1 ⟨rfl,hb1⟩;obtain ⟨hc1_0,hf1_0,hz1_0⟩:=bcs hb1 (wr.heap.size))
       go_ret2;exact ⟨_,rfl,World.ownsRow_nil _ _ _ _,by have hbel:=Hbel.out;exact bcq⟩)
     |(have HS:=kj (hsc (by simp [hkn]))
       clear hsc hzn;have htw:=HI.out rfl;simp only [if_true,if_false,Bool.false_eq_true] at htw;subst htw;have hes:=HES.out;simp only [if_true,if_false,Bool.false_eq_true,List.append_nil] at hes;have HEQ:=kj hes;clear HES hes
       go_wp2_with (first
        |(go_at_call 96;(with_reducible refine (CR.out _ ?_).mono ?_);(· exact HT.out.later (bt Hbel.out bcq));rintro e w1 ⟨rfl,hb1⟩;obtain ⟨hc1_0,hf1_0,hz1_0⟩:=bcs hb1 (wr.heap.size))
        |(go_at_call 151;(with_reducible refine (CI.out _ ?_ ?_).mono ?_);(· exact HH.out.later (bt Hbel.out bcq));(· exact HT.out.later (bt Hbel.out bcq));rintro x w2 ⟨rfl,hb2⟩;have hs2:=hb2.size)
        |(at_builtin;(refine wpList_append_own _ (by rfl) _ _ 84 (by rfl) w.heap.size 2 j0 _ 1 8 underlying84 hj0 hz0 hz1 hz2 (by rfl) (by decide) _ L.length _ (by rfl) ((own_later Hown.out (show Below wr.heap.size wr w2 from bcq)).alloc _) ⟨w2.heap.size,0,none⟩ 1 1 [.int .i64 t] (by rfl) (by rfl) (All.news_box (cs:=#[.int .i64 t]) (t:=2) (Box.new _ _ _)) ?_ ?_ ?_ ?_ ?_;(· intro u hu;simp only [List.mem_cons,List.not_mem_nil,or_false] at hu;rcases hu with rfl;rfl);(· unfold maxLen;omega);(· first|omega|(simp;done)|(simp;omega));(· first|omega|(simp;done)|(simp;omega));intro v' w4 hown' hgrow _;obtain ⟨g4,cap4,rfl⟩:=ownsRow_succ hown')))
       have hbel:=Hbel.out
       first
        |(have hB4:Below w.heap.size w w4:=(ba (show Below w.heap.size w w2 from bcq)).grown hgrow (by simp;omega) (fun j e=>ROcc.own_row Hown.out j e)
          have e1:(L++[t]).length=L.length+1:=by simp
          have e2:ints (L++[t])=ints L++[.int .i64 t]:=by simp [ints]
          go_roundw
          case rel=>exact ⟨k+1,some ⟨g4,0,none⟩,cap4,by go_num,hlt,HS.out,by rw [HEQ.out,e1],by rw [HEQ.out,e1,e2];exact hown',hB4⟩
          case measure=>simp [intOf];omega)
        |(go_roundw
          case rel=>exact ⟨k+1,q,c,by go_num,hlt,HS.out,by rw [HEQ.out],by rw [HEQ.out];exact own_later Hown.out bcq,bcq⟩
          case measure=>simp [intOf];omega))
  ·have hkn:k=n:=by omega
   have hL:=Hfin.out k hkn;rw [hL] at hown ⊢
   by_cases hn0:0<n
   ·have hz:=Hok.out k hkn Hto.out hn0;subst hz;have hn1:¬(n:Int)-1<0:=by omega
    have Hown:=kj hown;clear hown hto hbel;go_wp2;go_ret2;exact ⟨_,rfl,by simpa using Hown.out,Hbel.out⟩
   ·have hz:=Hz0.out (by omega);subst hz;have hn1:(n:Int)-1<0:=by omega
    clear hown hto hbel;go_wp2;go_ret2;exact ⟨_,rfl,World.ownsRow_nil _ _ _ _,Hbel.out⟩
end Zn
end
section
open Go.RowKit NB Nxt
namespace Unt
def NearP (l:List RuleV) (e:EraV) (a b:Int):Prop:=e.kind=2∧∃ x,Occ.All l e.rules l.length x∧a<Chn.inst l e.rules e.off x∧Chn.inst l e.rules e.off x<b
open Classical in
noncomputable def nearB (l:List RuleV) (e:EraV) (a b:Int):Bool:=decide (NearP l e a b)
theorem near_true {l:List RuleV} {e:EraV} {a b:Int} (h:NearP l e a b):nearB l e a b=true:=by unfold nearB;simpa using h
theorem near_false {l:List RuleV} {e:EraV} {a b:Int} (h:¬NearP l e a b):nearB l e a b=false:=by unfold nearB;simpa using h
def Still (l:List RuleV) (name:ByteArray) (off a b:Int) (c:Option OccV):Prop:=∀ x,Occ.All l name l.length x→a<Chn.inst l name off x→Chn.inst l name off x<b→∃ o,c=some o∧(x=o∨Occ.less o x=true)
theorem cnt {c:Int}:∀ {L:List Int},L.Pairwise (· ≠ ·)→L.length≤(L.filter fun x=>decide (x≠c)).length+1
 | [],_=>Nat.zero_le _
 |x :: xs,h=>by
  obtain ⟨h1,h2⟩:=List.pairwise_cons.1 h
  by_cases hx:x=c
  ·subst hx;rw [List.filter_cons_of_neg (by simp)];have:(xs.filter fun y=>decide (y≠x))=xs:=by
    rw [List.filter_eq_self];intro y hy
    simpa using fun e=>h1 y hy e.symm
   rw [this];simp
  ·rw [List.filter_cons_of_pos (by simpa using hx)];have:=cnt (c:=c) h2;simp only [List.length_cons];omega
theorem pig:∀ (n:Nat) (L:List Int),L.Pairwise (· ≠ ·)→(∀ x∈L,0≤x∧x<n)→L.length≤n
 |0,L,_,h=>by
  cases L with
  |nil=>exact Nat.le_refl _
  |cons x xs=>have:=h x List.mem_cons_self;omega
 |n+1,L,hp,h=>by
  have h1:=cnt (c:=(n:Int)) hp;have h2:=pig n (L.filter fun x=>decide (x≠(n:Int))) (hp.filter _) (by
   intro x hx;rw [List.mem_filter] at hx;have h3:=h x hx.1;have h4:x≠n:=by simpa using hx.2
   omega)
  omega
theorem inL_sorted {l:List RuleV} {name:ByteArray} {T:Int}:∀ {n:Nat} {fr:OccV},(Occ.inL l name T fr n).Pairwise (fun a b=>Occ.less a b=true)
 |0,_=>by unfold Occ.inL;exact List.Pairwise.nil
 |n+1,fr=>by
  unfold Occ.inL;cases h:Occ.nextO l name fr with
  |none=>exact List.Pairwise.nil
  |some o=>
   simp only
   split
   ·exact List.pairwise_cons.2 ⟨fun x hx=>(Occ.inL_all hx).2.2,inL_sorted⟩
   ·exact List.Pairwise.nil
theorem inL_few {l:List RuleV} {name:ByteArray} {a T:Int} (h:T-a≤27820800) {n:Nat}:(Occ.inL l name T ⟨-1,0,a⟩ n).length≤l.length:=by
 have hp:((Occ.inL l name T ⟨-1,0,a⟩ n).map (·.rule)).Pairwise (· ≠ ·):=by
  rw [List.pairwise_map];refine List.Pairwise.imp_of_mem ?_ inL_sorted;intro x y hx hy hl he;obtain ⟨x1,x2,x3⟩:=Occ.inL_all hx;obtain ⟨y1,y2,y3⟩:=Occ.inL_all hy;obtain ⟨i,r,e1,hi,hr,hn,hR,u1,u2,u3⟩:=ChW.rule_of x1;obtain ⟨j,s,f1,hj,hs,hm,hS,v1,v2,v3⟩:=ChW.rule_of y1;have hij:i=j:=by omega
  subst hij;rw [hr] at hs;cases hs;have hl':=Occ.less_iff.1 hl;rw [Occ.less_iff] at x3 y3;simp only at x3 y3;have hy:x.year<y.year:=(Occ.nom_lt hR).1 (by omega);have:=Occ.nom_mono hR hy;omega
 have:=pig l.length _ hp (by
  intro z hz;rw [List.mem_map] at hz;obtain ⟨x,hx,rfl⟩:=hz;exact (Occ.all_bd (Occ.inL_all hx).1).2.2)
 simpa using this
end Unt
end
section
open Go.RowKit NB Nxt
namespace Unt
def nearO (l:List RuleV) (o:Option EraV) (a b:Int):Prop:=match o with|some e=>NearP l e a b|none=>False
open Classical in
noncomputable def badAt (l:List RuleV) (es:List EraV) (L:List Int) (i:Nat):Int:=match L[i]? with
 |none=>0
 |some t=>
  let p:=if 0<i then (L[i-1]?).getD 0 else t-345600
  if t≤p then 14 else if t-p<345600∨nearO l es[i]? (t-172800) t∨nearO l es[i+1]? t (t+172800) then 15 else 0
noncomputable def first (f:Nat→Int):Nat→Nat→Int×Int
 |0,_=>(-1,0)
 |c+1,k=>if f k=0 then first f c (k+1) else (k,f k)
noncomputable def checkU (l:List RuleV) (es:List EraV):Int×Int:=if Zn.zoneB es then first (badAt l es (Zn.endsL l es)) (Zn.endsL l es).length 0 else (-1,4)
theorem first_at {f:Nat→Int} {m k:Nat} (h:k<m):first f (m-k) k=if f k=0 then first f (m-(k+1)) (k+1) else (k,f k):=by
 obtain ⟨d,hd⟩:∃ d,m-k=d+1:=⟨m-k-1,by omega⟩;rw [hd,show m-(k+1)=d by omega];rfl
theorem ends_take {l:List RuleV} {es:List EraV} (h:Zn.OkTo es es.length):∀ k:Nat,k<es.length→Zn.endsL l (es.take k)=(es.take k).map fun e=>(instU l e).1
 |0,_=>by simp [Zn.endsL]
 |k+1,hk=>by
  obtain ⟨e,he⟩:∃ e,es[k]? =some e:=⟨es[k],by simp⟩;have ih:=ends_take (l:=l) h k (by omega);have hok:=h k e (by omega) he;unfold Zn.okAt at hok;simp only [Bool.and_eq_true,beq_iff_eq] at hok;have hh:e.u.has=true:=by rw [hok.2];simpa using hk
  rw [Zn.endsL_succ he,ih,if_pos hh,List.take_add_one,he,List.map_append];rfl
theorem ends_all {l:List RuleV} {es:List EraV} (h0:0<es.length) (h:Zn.OkTo es es.length):Zn.endsL l es=(es.take (es.length-1)).map fun e=>(instU l e).1:=by
 obtain ⟨n,hn⟩:∃ n,es.length=n+1:=⟨es.length-1,by omega⟩;obtain ⟨e,he⟩:∃ e,es[n]? =some e:=⟨es[n],by simp⟩;have hok:=h n e (by omega) he;unfold Zn.okAt at hok;simp only [Bool.and_eq_true,beq_iff_eq] at hok;have hh:e.u.has=false:=by rw [hok.2];simp;omega
 have h1:Zn.endsL l es=Zn.endsL l (es.take (n+1)):=by rw [← hn,List.take_length]
 rw [h1,Zn.endsL_succ he,hh,hn];simp only [Bool.false_eq_true,if_false,List.append_nil,Nat.add_sub_cancel];exact ends_take h n (by omega)
theorem ends_len {l:List RuleV} {es:List EraV} (hz:Zn.zoneB es=true):(Zn.endsL l es).length+1=es.length:=by
 obtain ⟨h0,h⟩:=Zn.zone_iff.1 hz;rw [ends_all h0 h,List.length_map,List.length_take];omega
theorem end_at {l:List RuleV} {es:List EraV} (hz:Zn.zoneB es=true) {i:Nat} {t:Int} (ht:(Zn.endsL l es)[i]? =some t):∃ e f,es[i]? =some e∧es[i+1]? =some f∧Er.rightB e=true∧Er.rightB f=true∧t=(instU l e).1∧ -3000000000000≤t∧t≤3000000000000:=by
 obtain ⟨h0,h⟩:=Zn.zone_iff.1 hz;have hl:=ends_len (l:=l) hz;have hi:i<(Zn.endsL l es).length:=(List.getElem?_eq_some_iff.1 ht).1;obtain ⟨e,he⟩:∃ e,es[i]? =some e:=⟨es[i]'(by omega),by simp⟩;obtain ⟨f,hf⟩:∃ e,es[i+1]? =some e:=⟨es[i+1]'(by omega),by simp⟩;have oe:=h i e (by omega) he;have of':=h (i+1) f (by omega) hf;unfold Zn.okAt at oe of';simp only [Bool.and_eq_true,beq_iff_eq] at oe of';have hh:e.u.has=true:=by rw [oe.2];simp;omega
 rw [ends_all h0 h,List.getElem?_map,List.getElem?_take,if_pos (by omega),he] at ht;have htt:t=(instU l e).1:=by cases ht;rfl
 refine ⟨e,f,he,hf,oe.1,of'.1,htt,?_⟩;have rs:=right_spec oe.1;have es':=end_spec hh rs.2.1;have sb:=saved_bd (l:=l) oe.1 (nomV e.u);have sh:=Chn.shift_bd (base:=e.u.base) (Chn.may_iff.2 rs.1) sb.1 sb.2;have:(instU l e).1=nomV e.u-Chn.shift e.off e.u.base (savedE l e (nomV e.u)):=by
  unfold instU;rw [if_pos oe.1,if_pos hh]
 omega
end Unt
end
section
open Go.RowKit NB Nxt
namespace Unt
theorem first_or {f:Nat→Int}:∀ (c k:Nat),(first f c k=(-1,0)∧∀ j,k≤j→j<k+c→f j=0)∨∃ j:Nat,first f c k=((j:Int),f j)∧f j≠0∧j<k+c
 |0,k=>.inl ⟨rfl,fun j h1 h2=>by omega⟩
 |c+1,k=>by
  unfold first
  by_cases h:f k=0
  ·rw [if_pos h];rcases first_or (f:=f) c (k+1) with ⟨h1,h2⟩|⟨j,h1,h2,h3⟩
   ·refine .inl ⟨h1,fun j h3 h4=> ?_⟩
    by_cases hj:j=k
    ·rw [hj];exact h
    ·exact h2 j (by omega) (by omega)
   ·exact .inr ⟨j,h1,h2,by omega⟩
  ·rw [if_neg h];exact .inr ⟨k,rfl,h,by omega⟩
theorem bad_val (l:List RuleV) (es:List EraV) (L:List Int) (i:Nat):badAt l es L i=0∨badAt l es L i=14∨badAt l es L i=15:=by
 unfold badAt;cases L[i]? with
 |none=>exact .inl rfl
 |some t=>
  simp only;generalize (if 0<i then (L[i-1]?).getD 0 else t-345600)=q
  split
  ·exact .inr (.inl rfl)
  ·split
   ·exact .inr (.inr rfl)
   ·exact .inl rfl
theorem check_form {l:List RuleV} {es:List EraV} (h:Zn.zoneB es=false):checkU l es=(-1,4)∧Zn.endsE es=4∧Zn.endsR l es=[]:=by
 refine ⟨?_,?_,?_⟩
 ·unfold checkU;rw [h];rfl
 ·unfold Zn.endsE;rw [h];rfl
 ·unfold Zn.endsR;rw [h];rfl
theorem check_zone {l:List RuleV} {es:List EraV} (h:Zn.zoneB es=true):Zn.endsE es=0∧Zn.endsR l es=Zn.endsL l es∧((checkU l es=(-1,0)∧∀ i,i<(Zn.endsL l es).length→badAt l es (Zn.endsL l es) i=0)∨∃ (j:Nat) (s:Int),checkU l es=((j:Int),s)∧(s=14∨s=15)∧j<(Zn.endsL l es).length):=by
 refine ⟨?_,?_,?_⟩
 ·unfold Zn.endsE;rw [if_pos h]
 ·unfold Zn.endsR;rw [if_pos h]
 ·unfold checkU;rw [if_pos h];rcases first_or (f:=badAt l es (Zn.endsL l es)) (Zn.endsL l es).length 0 with ⟨h1,h2⟩|⟨j,h1,h2,h3⟩
  ·exact .inl ⟨h1,fun i hi=>h2 i (by omega) (by omega)⟩
  ·refine .inr ⟨j,_,h1,?_,by omega⟩;rcases bad_val l es (Zn.endsL l es) j with h|h|h
   ·exact absurd h h2
   ·exact .inl h
   ·exact .inr h
theorem ok_end {l:List RuleV} {es:List EraV} {L:List Int} {i:Nat} {t:Int} {e f:EraV} (h:badAt l es L i=0) (ht:L[i]? =some t) (he:es[i]? =some e) (hf:es[i+1]? =some f):(0<i→∀ q,L[i-1]? =some q→345600≤t-q)∧¬NearP l e (t-172800) t∧¬NearP l f t (t+172800):=by
 unfold badAt at h;rw [ht] at h;simp only at h;generalize hp:(if 0<i then (L[i-1]?).getD 0 else t-345600)=p at h
 split at h
 ·cases h
 ·rename_i h1
  split at h
  ·cases h
  ·rename_i h2;rw [he,hf] at h2;unfold nearO at h2;simp only [not_or] at h2;refine ⟨fun h0 q hq=> ?_,h2.2.1,h2.2.2⟩;have:=h2.1;rw [if_pos h0,hq] at hp;simp only [Option.getD_some] at hp;omega
end Unt
end
section
open Go.RowKit NB
namespace Fmt
def dig (k:Int):List Int:=[48+k/10,48+k%10]
def hms (n:Int):List Int:=dig (n/3600)++((if 0<n%3600 then dig (n/60%60) else [])++(if 0<n%60 then dig (n%60) else []))
def bytesOf (l:List Int):ByteArray:=⟨(l.map fun d=>UInt8.ofNat d.toNat).toArray⟩
def writtenL (off:Int):List Int:=if off<0 then 45 :: hms (-off) else 43 :: hms off
def writtenB (off:Int):ByteArray:=bytesOf (writtenL off)
def abbrF (s:ByteArray) (off save:Int) (letter:ByteArray):ByteArray×Int:=
 if checkE s≠0 then (⟨#[]⟩,checkE s)
 else if off < -359999∨359999<off then (⟨#[]⟩,1)
 else if (cutF s).1=2 then ((cutF s).2.1++letter++(cutF s).2.2,0)
 else if (cutF s).1=3 then (writtenB off,0)
 else if (cutF s).1=4∧save≠0 then ((cutF s).2.2,0)
 else ((cutF s).2.1,0)
theorem check_kind {s:ByteArray} (h:checkE s=0):(cutF s).1≠0∧s.size≤16:=by
 unfold checkE at h
 split at h
 ·cases h
 ·rename_i h1
  split at h
  ·cases h
  ·rename_i h2;exact ⟨h2,by omega⟩
def sub (s:ByteArray) (i j:Nat):ByteArray:=⟨((s.data.toList.take j).drop i).toArray⟩
end Fmt
end
section
namespace Frc
section
variable {γ:Type} {S:OccV→Prop} {I:OccV→Int} {val:OccV→γ} {fst:γ}
structure Line (S:OccV→Prop) (I:OccV→Int):Prop where
 mono:∀ x y,S x→S y→Occ.less x y=true→I x<I y
 tri:∀ x y,S x→S y→Occ.less x y=true∨x=y∨Occ.less y x=true
def Last (S:OccV→Prop) (I:OccV→Int) (t:Int):Option OccV→Prop
 |none=>∀ x,S x→t<I x
 |some o=>S o∧I o≤t∧∀ x,S x→Occ.less o x=true→t<I x
def state (val:OccV→γ) (fst:γ):Option OccV→γ
 |none=>fst
 |some o=>val o
def After:Option OccV→OccV→Prop
 |none,_=>True
 |some o,x=>Occ.less o x=true
def Nxt (S:OccV→Prop) (val:OccV→γ) (c:Option OccV) (v:γ):Option OccV→Prop
 |none=>∀ x,S x→After c x→val x=v
 |some y=>S y∧After c y∧val y≠v∧∀ x,S x→After c x→Occ.less x y=true→val x=v
def Prv (S:OccV→Prop) (val:OccV→γ) (o:OccV) (v:γ):Option OccV→Prop
 |none=>∀ x,S x→Occ.less x o=true→val x=v
 |some y=>S y∧Occ.less y o=true∧val y≠v∧∀ x,S x→Occ.less x o=true→Occ.less y x=true→val x=v
def Suc (S:OccV→Prop) (c:Option OccV):Option OccV→Prop
 |none=>∀ x,S x→¬After c x
 |some q=>S q∧After c q∧∀ x,S x→After c x→Occ.less x q=false
def Began (S:OccV→Prop) (val:OccV→γ) (fst:γ) (c r:Option OccV):Prop:=match c with
 |none=>r=none
 |some o=>(∃ x,Prv S val o (val o) (some x)∧Suc S (some x) r)∨(Prv S val o (val o) none∧fst=val o∧r=none)∨(Prv S val o (val o) none∧fst≠val o∧Suc S none r)
theorem Last.eq (L:Line S I) {t:Int} {a b:Option OccV} (ha:Last S I t a) (hb:Last S I t b):a=b:=by
 cases a with
 |none=>
  cases b with
  |none=>rfl
  |some b=>have:=ha b hb.1;have:=hb.2.1;omega
 |some a=>
  cases b with
  |none=>have:=hb a ha.1;have:=ha.2.1;omega
  |some b=>
   rcases L.tri a b ha.1 hb.1 with h|h|h
   ·have:=ha.2.2 b hb.1 h;have:=hb.2.1;omega
   ·rw [h]
   ·have:=hb.2.2 a ha.1 h;have:=ha.2.1;omega
theorem Last.at (L:Line S I) {y:OccV} (hy:S y):Last S I (I y) (some y):=⟨hy,Int.le_refl _,fun x hx hl=>L.mono y x hy hx hl⟩
theorem Last.le (L:Line S I) {s t:Int} {a b:Option OccV} (ha:Last S I s a) (hb:Last S I t b) (h:s≤t):b=a∨∃ z,b=some z∧After a z:=by
 cases b with
 |none=>
  cases a with
  |none=>exact .inl rfl
  |some a=>have:=hb a ha.1;have:=ha.2.1;omega
 |some z=>
  cases a with
  |none=>exact .inr ⟨z,rfl,trivial⟩
  |some a=>
   rcases L.tri a z ha.1 hb.1 with h1|h1|h1
   ·exact .inr ⟨z,rfl,h1⟩
   ·exact .inl (by rw [h1])
   ·have:=hb.2.2 a ha.1 h1;have:=ha.2.1;omega
theorem on (L:Line S I) {s t:Int} {c d r:Option OccV} (hc:Last S I t c) (hd:Last S I s d) (hts:t≤s) (hn:Nxt S val c (state val fst c) r) (hr:∀ y,r=some y→s<I y):state val fst d=state val fst c:=by
 rcases hc.le L hd hts with h|⟨z,rfl,hz⟩
 ·rw [h]
 ·cases r with
  |none=>exact hn z hd.1 hz
  |some y=>
   refine hn.2.2.2 z hd.1 hz ?_;rcases L.tri z y hd.1 hn.1 with h|h|h
   ·exact h
   ·have:=hr y rfl;have:=hd.2.1;rw [h] at this;omega
   ·have:=L.mono y z hn.1 hd.1 h;have:=hr y rfl;have:=hd.2.1;omega
theorem next_gt {t:Int} {c:Option OccV} {v:γ} {y:OccV} (hc:Last S I t c) (hn:Nxt S val c v (some y)):t<I y:=by
 cases c with
 |none=>exact hc y hn.1
 |some o=>exact hc.2.2 y hn.1 hn.2.1
theorem next_ahead (L:Line S I) {t:Int} {c d:Option OccV} {y:OccV} (hc:Last S I t c) (hn:Nxt S val c (state val fst c) (some y)) (hd:Last S I (I y-1) d):state val fst d=state val fst c:=by
 have:=next_gt hc hn;exact on L hc hd (by omega) hn (fun z hz=>by cases hz;omega)
theorem last_ahead (L:Line S I) {y:OccV} (hy:S y) {d:Option OccV} (hd:Last S I (I y-1) d):(∀ z,d=some z→S z∧Occ.less z y=true)∧∀ x,S x→After d x→Occ.less x y=false:=by
 constructor
 ·rintro z rfl;refine ⟨hd.1,?_⟩;rcases L.tri z y hd.1 hy with h|h|h
  ·exact h
  ·have:=hd.2.1;rw [h] at this;omega
  ·have:=L.mono y z hy hd.1 h;have:=hd.2.1;omega
 ·intro x hx ha;rw [Bool.eq_false_iff];intro hl;have:=L.mono x y hx hy hl;cases d with
  |none=>have:=hd x hx;omega
  |some z=>have:=hd.2.2 x hx ha;omega
theorem Suc.eq (L:Line S I) {c a b:Option OccV} (ha:Suc S c a) (hb:Suc S c b):a=b:=by
 cases a with
 |none=>
  cases b with
  |none=>rfl
  |some b=>exact absurd hb.2.1 (ha b hb.1)
 |some a=>
  cases b with
  |none=>exact absurd ha.2.1 (hb a ha.1)
  |some b=>
   rcases L.tri a b ha.1 hb.1 with h|h|h
   ·rw [hb.2.2 a ha.1 ha.2.1] at h;cases h
   ·rw [h]
   ·rw [ha.2.2 b hb.1 hb.2.1] at h;cases h
theorem next_back (L:Line S I) {t:Int} {c d r:Option OccV} {y:OccV} (hc:Last S I t c) (hn:Nxt S val c (state val fst c) (some y)) (hd:Last S I (I y-1) d) (hb:Began S val fst (some y) r):r=some y:=by
 have hs:=next_ahead L hc hn hd;obtain ⟨h1,h2⟩:=last_ahead L hn.1 hd;have hne:state val fst d≠val y:=by rw [hs];exact fun e=>hn.2.2.1 e.symm
 have own:Suc S d (some y):=by
  refine ⟨hn.1,?_,h2⟩;cases d with
  |none=>trivial
  |some z=>exact (h1 z rfl).2
 rcases hb with ⟨x,hp,hq⟩|⟨hp,he,_⟩|⟨hp,he,hq⟩
 ·cases d with
  |none=>
   have:=h2 x hp.1 trivial;rw [hp.2.1] at this;cases this
  |some z=>
   have hz:=h1 z rfl;have:x=z:=by
    rcases L.tri x z hp.1 hz.1 with h|h|h
    ·exact absurd (hp.2.2.2 z hz.1 hz.2 h) hne
    ·exact h
    ·have h3:=h2 x hp.1 h;rw [hp.2.1] at h3;cases h3
   subst this;exact hq.eq L own
 ·cases d with
  |none=>exact absurd he hne
  |some z=>exact absurd (hp z (h1 z rfl).1 (h1 z rfl).2) hne
 ·cases d with
  |none=>exact hq.eq L own
  |some z=>exact absurd (hp z (h1 z rfl).1 (h1 z rfl).2) hne
def Told (S:OccV→Prop) (I:OccV→Int) (val:OccV→γ) (fst:γ) (t:Int) (o q:OccV):Prop:=
 S q∧(q=o∨Occ.less q o=true)∧I q≤t∧val q=val o∧(∀ x,S x→(x=q∨Occ.less q x=true)→(x=o∨Occ.less x o=true)→val x=val o)∧∀ d,Last S I (I q-1) d→state val fst d≠val o∧Suc S d (some q)
theorem told (L:Line S I) {t:Int} {o q:OccV} (hc:Last S I t (some o)) (c':Option OccV) (g1:∀ x,c'=some x→S x∧Occ.less x o=true∧val x≠val o) (g0:c'=none→fst≠val o) (g2:∀ x,S x→Occ.less x o=true→After c' x→val x=val o) (hq:Suc S c' (some q)):Told S I val fst t o q:=by
 have hle:∀ q,S q→(q=o∨Occ.less q o=true)→I q≤t:=by
  rintro q hq (rfl|h)
  ·exact hc.2.1
  ·have:=L.mono q o hq hc.1 h;have:=hc.2.1;omega
 have hqo:q=o∨Occ.less q o=true:=by
  have hao:After c' o:=by
   cases c' with
   |none=>trivial
   |some x=>exact (g1 x rfl).2.1
  have:=hq.2.2 o hc.1 hao;rcases L.tri q o hq.1 hc.1 with h|h|h
  ·exact .inr h
  ·exact .inl h
  ·rw [h] at this;cases this
 have tr:∀ x,(x=q∨Occ.less q x=true)→After c' x:=by
  rintro x (rfl|h)
  ·exact hq.2.1
  ·cases c' with
   |none=>trivial
   |some z=>exact Occ.weak_less.tr _ _ _ hq.2.1 h
 have hval:∀ x,S x→(x=q∨Occ.less q x=true)→(x=o∨Occ.less x o=true)→val x=val o:=by
  rintro x hx h1 (rfl|h2)
  ·rfl
  ·exact g2 x hx h2 (tr x h1)
 refine ⟨hq.1,hqo,hle q hq.1 hqo,hval q hq.1 (.inl rfl) hqo,hval,fun d hd=> ?_⟩;obtain ⟨k1,k2⟩:=last_ahead L hq.1 hd;have hdc:d=c':=by
  cases c' with
  |none=>
   cases d with
   |none=>rfl
   |some z=>have:=hq.2.2 z (k1 z rfl).1 trivial;rw [(k1 z rfl).2] at this;cases this
  |some x=>
   have hx:=g1 x rfl;cases d with
   |none=>have:=k2 x hx.1 trivial;rw [hq.2.1] at this;cases this
   |some z=>
    have hz:=k1 z rfl;rcases L.tri x z hx.1 hz.1 with h|h|h
    ·have:=hq.2.2 z hz.1 h;rw [hz.2] at this;cases this
    ·rw [h]
    ·have:=k2 x hx.1 h;rw [hq.2.1] at this;cases this
 rw [hdc];refine ⟨?_,hq⟩;cases c' with
 |none=>exact g0 rfl
 |some x=>exact (g1 x rfl).2.2
theorem began_le (L:Line S I) {t:Int} {c:Option OccV} {q:OccV} (hc:Last S I t c) (hb:Began S val fst c (some q)):∃ o,c=some o∧Told S I val fst t o q:=by
 cases c with
 |none=>cases hb
 |some o=>
  refine ⟨o,rfl,?_⟩;rcases hb with ⟨x,hp,hq⟩|⟨_,_,h⟩|⟨hp,he,hq⟩
  ·exact told L hc (some x) (fun z hz=>by cases hz;exact ⟨hp.1,hp.2.1,hp.2.2.1⟩) (fun h=>by cases h) (fun z hz h1 h2=>hp.2.2.2 z hz h1 h2) hq
  ·cases h
  ·exact told L hc none (fun z hz=>by cases hz) (fun _=>he) (fun z hz h1 _=>hp z hz h1) hq
theorem began_next (L:Line S I) {t:Int} {c d r:Option OccV} {q:OccV} (hc:Last S I t c) (hb:Began S val fst c (some q)) (hd:Last S I (I q-1) d) (hn:Nxt S val d (state val fst d) r):r=some q:=by
 obtain ⟨o,_,hq,_,_,hv,_,h⟩:=began_le L hc hb;obtain ⟨hne,hs⟩:=h d hd;cases r with
 |none=>exact absurd ((hn q hq hs.2.1).symm.trans hv) hne
 |some y=>
  rcases L.tri y q hn.1 hq with h|h|h
  ·rw [hs.2.2 y hn.1 hn.2.1] at h;cases h
  ·rw [h]
  ·exact absurd ((hn.2.2.2 q hq hs.2.1 h).symm.trans hv) hne
theorem back (L:Line S I) {s t:Int} {c d r:Option OccV} (hc:Last S I t c) (hd:Last S I s d) (hst:s≤t) (hb:Began S val fst c r) (hr:∀ q,r=some q→I q≤s) (h0:r=none→∀ o,c=some o→Prv S val o (val o) none∧fst=val o):state val fst d=state val fst c:=by
 rcases hd.le L hc hst with h|⟨o,rfl,hz⟩
 ·rw [h]
 ·cases r with
  |none=>
   obtain ⟨h1,h2⟩:=h0 rfl o rfl;cases d with
   |none=>exact h2
   |some z=>exact h1 z hd.1 hz
  |some q=>
   obtain ⟨o',ho,hq,hqo,_,hv,hval,_⟩:=began_le L hc hb;cases ho;have:=hr q rfl;cases d with
   |none=>have:=hd q hq;omega
   |some z=>
    refine hval z hd.1 ?_ (.inr hz);rcases L.tri z q hd.1 hq with h|h|h
    ·have:=hd.2.2 q hq h;omega
    ·exact .inl h
    ·exact .inr h
end
end Frc
end
end Go.Proofs.YtgmfojgnjdpofaaGreatDoor
