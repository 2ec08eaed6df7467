import Derived.Test.YtgmfojgnjdpofaaGreatDoorH14
import Derived.Test.YtgmfojgnjdpofaaGreatDoorH30
import Derived.Test.YtgmfojgnjdpofaaGreatDoorH18
namespace Go.Proofs.YtgmfojgnjdpofaaGreatDoor
open Go.Proofs.Tryz
section
open Go.RowKit NB Nxt
namespace Zn
set_option maxRecDepth 100000 in
set_option maxHeartbeats 6400000 in
theorem REnds {w:World} {v r:Value} {l:List RuleV} {es:List EraV} (hr:Holds w r l) (h:HoldsE w v es) (name:ByteArray) (hn:es.length≤100000):Calls prog 72 #[r,.agg #[.string name,v]] w (EndsPost w l es):=by
 have hat:=fun (k:Nat) (e:EraV) (he:es[k]? =some e)=>h.at he;have hfit:=h.fit;have cz:=fun W (h:HoldsE W v es)=>Zone h name;obtain ⟨p,cap,rfl⟩:=h.form;obtain ⟨j0,hj0,hz0,hz1,hz2⟩:=info_parts info_i64;have ci:=fun (e:EraV) (he:e.Fit) W (h:Holds W r l)=>RUnt.Instant h e he;have hll:∀ k:Nat,k<es.length→∃ e,es[k]? =some e:=fun k hk=>⟨es[k],by simp⟩;have hok:zoneB es=true→OkTo es es.length:=fun hz=>(zone_iff.1 hz).2;have hfin:∀ k,k=es.length→endsL l (es.take k)=endsL l es:=fun k hk=>by rw [hk,List.take_length]
 obtain ⟨rp,rc,rfl⟩:=hr.form;unfold EndsPost endsR endsE;have HE:=kj h;have HH:=kj hr;clear h hr;cases hzb:zoneB es
 ·rw [hzb] at cz;have Cz:=kj cz;clear cz hok hzb hat hfit ci hll hfin;generalize es.length=n at *;generalize l.length=ln at *;go_enter func72,ntmps72
  go_wp2_with (go_at_call 125;(with_reducible refine (Cz.out _ ?_).mono ?_);(· exact HE.out.later bcq);rintro e w1 ⟨rfl,hb1⟩;obtain ⟨hc1_0,hf1_0,hz1_0⟩:=bcs hb1 (w.heap.size))
  go_ret2;exact ⟨_,rfl,World.ownsRow_nil _ _ _ _,bcq⟩
 ·rw [hzb] at cz;have hto:=hok hzb;unfold OkTo okAt at hto;have hright:∀ k e,k<es.length→es[k]? =some e→Er.rightB e=true:=fun k e hk he=>by
   have:=hto k e hk he;rw [Bool.and_eq_true] at this;exact this.1
  have Cz:=kj cz;have Hat:=kj hat;have Hft:=kj hfit;have HLL:=kj hll;have Hfin:=kj hfin;have Ci:=kj ci;clear cz hok hzb hto hat hfit ci hll hfin;generalize es.length=n at *;generalize l.length=ln at *;have HRt:=kj hright;clear hright;go_enter func72,ntmps72
  go_wp2_with (go_at_call 125;(with_reducible refine (Cz.out _ ?_).mono ?_);(· exact HE.out.later bcq);rintro e w1 ⟨rfl,hb1⟩;obtain ⟨hc1_0,hf1_0,hz1_0⟩:=bcs hb1 (w.heap.size))
  have hBV:Below w.heap.size w w1:=bcq;clear hb1 hc1_0 hf1_0
  go_loopw [17,6] (fun z out wr=>∃ (k:Nat) (q:Option Addr) (c:Nat),z=.int .i64 k∧k≤n∧out=.slice q (endsL l (es.take k)).length c∧wr.ownsRow w.heap.size 2 1 (.slice q (endsL l (es.take k)).length c) (endsL l (es.take k)).length (ints (endsL l (es.take k)))∧Below w.heap.size w wr) (fun z _ _=>n-(intOf z).toNat)
  case atStart=>exact ⟨0,none,0,rfl,Nat.zero_le _,rfl,World.ownsRow_nil _ _ _ _,hBV⟩
  case round=>
   clear hBV;obtain ⟨k,q,c,rfl,hk,rfl,hown,hbel⟩:=hrel;have hLk:=endsL_len l es k;have Hbel:=kj hbel;have hbs:=hbel.size
   by_cases hlt:k<n
   ·obtain ⟨e,he⟩:=HLL.out k hlt;have hes:=endsL_succ (l:=l) he;generalize endsL l (es.take k)=L at *;have Hown:=kj hown;have HES:=kj hes;clear hbel hown hes;obtain ⟨b,off,cap',hq,hb,hcl⟩:=Hat.out k e he;simp only [Value.slice.injEq] at hq;obtain ⟨rfl, -, -⟩:=hq;have ci:=fun W h=>Ci.out e (Hft.out e (List.mem_of_getElem? he)) W h;have hg:=HRt.out k e hlt he;have hi:(Unt.instU l e).2=if e.u.has then 0 else 12:=by
     unfold Unt.instU;rw [if_pos hg]
     split<;>rfl
    generalize (Unt.instU l e).1=t at *;generalize (Unt.instU l e).2=tw at *;have hd:∀ (j:Nat) (u:Value),e.cells[j]? =some u→wr.cell? ⟨b,off+k*13+j,none⟩=some u:=fun j u hu=>(Hbel.out.cell (p:=⟨b,off+k*13+j,none⟩) hb).trans (hcl j u hu);unfold EraV.cells at hd ci;have d0:=hd 0 _ rfl;have d1:=hd 1 _ rfl;have d2:=hd 2 _ rfl;have d3:=hd 3 _ rfl;have d4:=hd 4 _ rfl;have d5:=hd 5 _ rfl;have d6:=hd 6 _ rfl;have d7:=hd 7 _ rfl;have d8:=hd 8 _ rfl;have d9:=hd 9 _ rfl;have d10:=hd 10 _ rfl;have d11:=hd 11 _ rfl;have d12:=hd 12 _ rfl;simp only [Nat.add_zero] at d0;clear hd hcl he hb hg;generalize e.u.has=has at *;have CI:=kj ci;clear ci;cases has
    all_goals
     have hes:=HES.out;simp only [if_true,if_false,Bool.false_eq_true,List.append_nil] at hes hi;have HEQ:=kj hes;clear HES hes
     go_wp2_with (first
      |(go_at_call 126;(with_reducible refine (CI.out _ ?_).mono ?_);(· exact HH.out.later (bt Hbel.out bcq));rintro x w2 ⟨rfl,hb2⟩;have hs2:=hb2.size)
      |(at_builtin;refine wpList_append_own _ (by rfl) _ _ 84 (by rfl) w.heap.size 2 j0 _ 1 8 underlying84 hj0 hz0 hz1 hz2 (by rfl) (by decide) _ L.length _ (by rfl) ((own_later Hown.out (show Below wr.heap.size wr w2 from bcq)).alloc _) ⟨w2.heap.size,0,none⟩ 1 1 [.int .i64 t] (by rfl) (by rfl) (All.news_box (cs:=#[.int .i64 t]) (t:=2) (Box.new _ _ _)) ?_ ?_ ?_ ?_ ?_;(· intro u hu;simp only [List.mem_cons,List.not_mem_nil,or_false] at hu;rcases hu with rfl;rfl);(· unfold maxLen;omega);(· first|omega|(simp;done)|(simp at *;omega));(· first|omega|(simp;done)|(simp at *;omega));intro v' w4 hown' hgrow _;obtain ⟨g4,cap4,rfl⟩:=ownsRow_succ hown'))
     have hbel:=Hbel.out
     first
      |(have hB4:Below w.heap.size w w4:=(ba (show Below w.heap.size w w2 from bcq)).grown hgrow (by simp at *;omega) (fun j e=>ROcc.own_row Hown.out j e)
        have e1:(L++[t]).length=L.length+1:=by simp
        have e2:ints (L++[t])=ints L++[.int .i64 t]:=by simp [ints]
        go_roundw
        case rel=>exact ⟨k+1,some ⟨g4,0,none⟩,cap4,by go_num,hlt,by rw [HEQ.out,e1],by rw [HEQ.out,e1,e2];exact hown',hB4⟩
        case measure=>simp [intOf];omega)
      |(go_roundw
        case rel=>exact ⟨k+1,q,c,by go_num,hlt,by rw [HEQ.out],by rw [HEQ.out];exact own_later Hown.out bcq,bcq⟩
        case measure=>simp [intOf];omega)
   ·have hkn:k=n:=by omega
    have hL:=Hfin.out k hkn;rw [hL] at hown ⊢;have Hown:=kj hown;clear hown hbel;go_wp2;go_ret2;exact ⟨_,rfl,by simpa using Hown.out,Hbel.out⟩
end Zn
end
section
open Go.RowKit NB
namespace RdR
open Rd RWr
def Got (t:TabV) (W:World) (B p:Nat) (rv lv zv ev kv nv:Value):Prop:=∃ (F:Nat) (zs1:List ZoneV) (es:List RowN),
 P3 W B F p t.rs zs1 es t.ls (Ck.up (t.rs.length+Ck.sumE zs1) t.ls.length) rv lv zv ev kv nv∧Sm zs1 t.zs∧es.map RowN.ns=Ck.upE t.rs.length zs1
theorem zones_nil {t:TabV} (hf:Fine1 t) {zs:List ZoneV} (hz:∀ z∈zs,z∈t.zs) (h:zs.flatMap zoneL=[]):zs=[]:=by
 cases zs with
 |nil=>rfl
 |cons z r=>
  obtain ⟨_,h0,_⟩:=zone_rights (hf.parts.2.1 z (hz z (by simp)));have:=congrArg List.length h;rw [List.flatMap_cons,List.length_append,zoneL_len,List.length_nil] at this;omega
theorem St.fin {t:TabV} (hf:Fine1 t) {W:World} {B p k:Nat} {L:List Ln} (h:St t B p W k L) (hL:L=[]) (hBW:B≤W.heap.size):∃ rv lv zv ev kv nv,Got t W B p rv lv zv ev kv nv:=by
 cases h with
 | @a rs1 rs2 hP hr=>
   obtain ⟨h1,h2⟩:=List.append_eq_nil_iff.1 hL;obtain ⟨h2,h3⟩:=List.append_eq_nil_iff.1 h2;have h1:=List.map_eq_nil_iff.1 h1;have h3:=List.map_eq_nil_iff.1 h3;have hz:=zones_nil hf (fun z h=>h) h2;subst h1;rw [List.append_nil] at hr;subst hr;obtain ⟨rv,lv,hP2⟩:=hP.to2 hBW;refine ⟨rv,lv,nilV,nilV,nilV,nilV,W.heap.size,[],[],?_,?_,rfl⟩
   ·have:=hP2.to3;rw [h3];exact this
   ·rw [hz];rfl
 | @b F zs0 zs1 zs2 z v ed more es y o rv lv zv ev hP hz hs he h0 ho ho2 hw hl=>
   obtain ⟨h1,h2⟩:=List.append_eq_nil_iff.1 hL;obtain ⟨h2,h3⟩:=List.append_eq_nil_iff.1 h2;have h1:=List.map_eq_nil_iff.1 h1;have h3:=List.map_eq_nil_iff.1 h3;have hz2:=zones_nil hf (fun x h=>by rw [hz];simp [h]) h2;have ho3:=ho2 h1;subst h1;subst hz2;subst ho3;rw [List.append_nil] at he;refine ⟨rv,lv,zv,ev,nilV,nilV,W.heap.size,zs1++[⟨z.name,v,ed⟩],es++[y],?_,?_,hw⟩
   ·have:=hP.to3;rw [h3];exact this
   ·rw [hz];exact hs.snoc rfl he.symm
 | @c F zs1 es ls1 ls2 ns rv lv zv ev kv nv hP hs hk hw hn=>
   have h1:=List.map_eq_nil_iff.1 hL;subst h1;rw [List.append_nil] at hk;subst hk;subst hn;exact ⟨_,_,_,_,_,_,F,zs1,es,hP,hs,hw⟩
theorem P3.set {W:World} {B F p b j:Nat} {u:Value} {rs:List RuleV} {zs:List ZoneV} {es:List RowN} {ls:List LinkV} {ns:List Int} {rv lv zv ev kv nv:Value} (h:P3 W B F p rs zs es ls ns rv lv zv ev kv nv) (hb:b<B) (hp:p≠b):P3 (W.setCell ⟨b,j,none⟩ u) B F p rs zs es ls ns rv lv zv ev kv nv:=
 have s:∀ {B':Nat} {e':TypeId} {sz':Nat} {v':Value} {n':Nat} {xs':List Value},W.ownsRow B' e' sz' v' n' xs'→B≤B'→(W.setCell ⟨b,j,none⟩ u).ownsRow B' e' sz' v' n' xs':=fun h hB=>ownsRow_setCell_below (a:=⟨b,j,none⟩) h (by show b<_;omega) _
 ⟨h.box.other hp,s h.r (Nat.le_refl _),s h.l (Nat.le_refl _),h.lF,s h.z (Nat.le_refl _),s h.e (Nat.le_refl _),fun x hx=>s (h.zf x hx) (Nat.le_refl _),fun x hx=>⟨s (h.ef x hx).1 (Nat.le_refl _),(h.ef x hx).2⟩,s h.k (Nat.le_refl _),s h.n h.bF,h.bF,by have:=h.fW;simpa [World.setCell] using this⟩
theorem Got.set {t:TabV} {W:World} {B p b j:Nat} {u:Value} {rv lv zv ev kv nv:Value} (h:Got t W B p rv lv zv ev kv nv) (hb:b<B) (hp:p≠b):Got t (W.setCell ⟨b,j,none⟩ u) B p rv lv zv ev kv nv:=by
 obtain ⟨F,zs1,es,h1,h2,h3⟩:=h;exact ⟨F,zs1,es,h1.set hb hp,h2,h3⟩
theorem Got.later {t:TabV} {W U:World} {B p:Nat} {rv lv zv ev kv nv:Value} (h:Got t W B p rv lv zv ev kv nv) (hb:Below W.heap.size W U):Got t U B p rv lv zv ev kv nv:=by
 obtain ⟨F,zs1,es,h1,h2,h3⟩:=h;exact ⟨F,zs1,es,h1.later hb,h2,h3⟩
theorem Fr.belowB {B p:Nat} {V W U:World} (h:Fr B p W U) {n:Nat} (hb:Below n V W) (hn:n≤p) (hB:n≤B):Below n V U:=
 ⟨h.os.trans hb.os,h.tape.trans hb.tape,h.output.trans hb.output,Nat.le_trans hb.size h.size,fun k hk=>(h.block k (by omega) (by omega)).trans (hb.block k hk)⟩
theorem Fr.box {B p b:Nat} {W U:World} {cs:Array Value} {t:TypeId} (h:Fr B p W U) (hb:Box W b cs t) (hB:b<B) (hp:b≠p):Box U b cs t:=(h.block b hB hp).trans hb
theorem lines_right {t:TabV} (hf:Fine1 t):∀ x∈tabL t,x.right=true:=fun x hx=>by
 obtain ⟨h1,h2,h3⟩:=hf.parts;rcases List.mem_append.1 hx with hx|hx
 ·obtain ⟨r,hr,rfl⟩:=List.mem_map.1 hx;exact h1 r hr
 ·rcases List.mem_append.1 hx with hx|hx
  ·obtain ⟨z,hz,hx⟩:=List.mem_flatMap.1 hx;obtain ⟨g1,g2,g3⟩:=zone_rights (h2 z hz);unfold zoneL at hx;cases he:z.es with
   |nil=>rw [he] at hx;cases hx
   |cons e r=>
    rw [he] at hx g3;rcases List.mem_cons.1 hx with rfl|hx
    ·show (decide (Nam.nameE z.name=0)&&Er.rightB e)=true;rw [g1,g3 e (by simp)];rfl
    ·obtain ⟨e',he',rfl⟩:=List.mem_map.1 hx;exact g3 e' (by simp [he'])
  ·obtain ⟨l,hl,rfl⟩:=List.mem_map.1 hx;exact h3 l hl
theorem zones_len {zs:List ZoneV} (h:∀ z∈zs,z.es.length≤12):(zs.flatMap zoneL).length≤12*zs.length:=by
 induction zs with
 |nil=>simp
 |cons z r ih=>
  have h1:=h z (by simp);have h2:=ih (fun x hx=>h x (by simp [hx]));rw [List.flatMap_cons,List.length_append,zoneL_len,List.length_cons];omega
theorem lines_few {t:TabV} (hf:Fine1 t):(tabL t).length≤148:=by
 have:=zones_len hf.l4;have h1:=hf.l1;have h2:=hf.l2;have h3:=hf.l3;unfold tabL;rw [List.length_append,List.length_append,List.length_map,List.length_map];omega
set_option maxRecDepth 100000 in
set_option maxHeartbeats 6400000 in
theorem Table {t:TabV} (hf:Fine1 t) (W:World):Calls prog 149 #[.string (ofL (srcB (tabL t)))] W fun e w'=>∃ (B p:Nat) (rv lv zv ev kv nv:Value),
 e=.returned (.tuple #[.agg #[rv,zv,kv],.agg #[lv,ev,nv],.agg #[.int .i64 0,.int .i64 0]])∧Got t w' B p rv lv zv ev kv nv∧Below W.heap.size W w':=by
 have hlr:=lines_right hf;have hlf:=lines_few hf;have hls:=lines_src hlr;have hsz:(ofL (srcB (tabL t))).size≤100000:=by
  rw [ofL_size];have:=src_len hlr;omega
 have cO:=fun X=>RLi.Of (ofL (srcB (tabL t))) (by omega) X;rw [hls] at cO;generalize ofL (srcB (tabL t))=S at *;obtain ⟨L,hL⟩:∃ L,L=tabL t:=⟨_,rfl⟩;rw [← hL] at cO hlf;have CO:=kj cO;have HL:=kj hL;clear cO hls hlr hL;go_enter func149,ntmps149
 go_upto_region 4 with fail
 obtain ⟨w1,hw1⟩:∃ V,V=(((W.alloc (.cells #[nilV,nilV,nilV] 26)).alloc (.cells #[nilV,nilV,nilV] 202)).alloc (.cells #[.int .i64 0,.int .i64 0] 149)).alloc (.cells #[nilV,nilV,nilV,nilV,nilV,nilV,.int .i64 0] 244):=⟨_,rfl⟩;have a0:Box w1 W.heap.size #[nilV,nilV,nilV] 26:=by rw [hw1];exact (((Box.new W _ _).old).old).old
 have a1:Box w1 (W.heap.size+1) #[nilV,nilV,nilV] 202:=by
  have:=(Box.new (W.alloc (.cells #[nilV,nilV,nilV] 26)) #[nilV,nilV,nilV] 202);rw [World.size_alloc] at this;rw [hw1];exact (this.old).old
 have a2:Box w1 (W.heap.size+1+1) #[.int .i64 0,.int .i64 0] 149:=by
  have:=(Box.new ((W.alloc (.cells #[nilV,nilV,nilV] 26)).alloc (.cells #[nilV,nilV,nilV] 202)) #[.int .i64 0,.int .i64 0] 149);rw [World.size_alloc,World.size_alloc] at this;rw [hw1];exact this.old
 have a3:Box w1 (W.heap.size+1+1+1) #[nilV,nilV,nilV,nilV,nilV,nilV,.int .i64 0] 244:=by
  have:=(Box.new (((W.alloc (.cells #[nilV,nilV,nilV] 26)).alloc (.cells #[nilV,nilV,nilV] 202)).alloc (.cells #[.int .i64 0,.int .i64 0] 149)) #[nilV,nilV,nilV,nilV,nilV,nilV,.int .i64 0] 244);rw [World.size_alloc,World.size_alloc,World.size_alloc] at this;rw [hw1];exact this
 have hbw1:Below W.heap.size W w1:=by rw [hw1];exact bcq
 rw [← hw1];clear hw1
 go_wp2_with (go_at_call 205;refine (CO.out _).mono ?_;rintro e w2 ⟨v2,rfl,hown2,hb2⟩;obtain ⟨q,c,hv2,hpk⟩:=(HoldsS.of_own hown2).pk1;subst hv2;have HPK:=kj hpk;clear hpk)
 obtain ⟨p,hp⟩:∃ p,p=W.heap.size+1+1+1:=⟨_,rfl⟩;rw [← hp];rw [← hp] at a3;obtain ⟨n,hn⟩:∃ n,n=L.length:=⟨_,rfl⟩;have hlt2:=fun g (hg:(Value.slice q (L.map fun x=>ofL x.bytes).length c).ownBlock=some g)=>hown2.lt g hg;rw [List.length_map, ←hn] at hlt2;rw [← hn] at hlf ⊢;have HN:=kj hn;have HLT:=kj hlt2;have hP0:P1 w2 w2.heap.size p []:=⟨nilV,nilV,a3.later hb2,World.ownsRow_nil _ _ _ _,World.ownsRow_nil _ _ _ _⟩;have hSt0:St t w2.heap.size p w2 0 L:=by
  have:=St.a (t:=t) (rs1:=[]) (rs2:=t.rs) hP0 rfl;rw [HL.out];exact this
 have hs2:=hb2.size;have lp1:=a3.lt;have hpB:p<w2.heap.size:=by omega
 have d0:=a0.later hb2;have d1:=a1.later hb2;have d2:=a2.later hb2;have hbw2:Below W.heap.size W w2:=hbw1.trans (hb2.mono hbw1.size);have HP:=kj hp;clear hn hp hlt2 hown2 hP0 a0 a1 a2 a3 hb2
 go_loopw [18] (fun i wr=>∃ k:Nat,i=.int .i64 k∧k≤n∧Fr w2.heap.size p w2 wr∧Hid (St t w2.heap.size p wr k (L.drop k))) (fun i _=>n-(intOf i).toNat)
 case atStart=>exact ⟨0,rfl,Nat.zero_le _,Fr.refl _ _ _,hSt0⟩
 case round=>
  obtain ⟨k,rfl,hk,hfr,HS⟩:=hrel
  by_cases hlt:k<n
  ·obtain ⟨x,hx⟩:∃ x,L[k]? =some x:=⟨_,List.getElem?_eq_getElem (by rw [← HN.out];exact hlt)⟩;obtain ⟨g,o,rfl,hg,d⟩:=HPK.out k (ofL x.bytes) (by rw [List.getElem?_map,hx];rfl);have hg1:=(HLT.out g rfl).1;have d:=(World.cell?_of_block (a:=⟨g,o+k,none⟩) (hfr.block g hg (by omega))).trans d;have hdk:L.drop k=x :: L.drop (k+1):=by
    have hl2:k<L.length:=by rw [← HN.out];exact hlt
    rw [List.drop_eq_getElem_cons hl2]
    congr 1
    rw [List.getElem?_eq_getElem hl2] at hx;exact Option.some.inj hx
   have hst:=HS.out;rw [hdk] at hst;have cs:=step hf hpB hfr.size (by omega) hst;have CS:=kj cs;have q1:(k:Int)<(n:Int):=by omega
   clear hx hdk hst cs
   go_wp2_with (go_at_call 206;refine CS.out.mono ?_;rintro e w4 ⟨rfl,hst,hfr4⟩;have HST:=kj hst;clear hst)
   go_roundw
   case rel=>exact ⟨k+1,by go_num,by omega,hfr.trans hfr4,HST.out⟩
   case measure=>simp [intOf];omega
  ·obtain rfl:k=n:=by omega
   obtain ⟨rv,lv,zv,ev,kv,nv,hG⟩:=St.fin hf HS.out (List.drop_eq_nil_of_le (by rw [← HN.out];exact Nat.le_refl _)) hfr.size;obtain ⟨F,zs1,es1,h3,_⟩:=id hG;obtain ⟨qr,cr,rfl⟩:=own_f h3.r;obtain ⟨ql,cl,rfl⟩:=own_f h3.l;obtain ⟨qz,cz,rfl⟩:=own_f h3.z;obtain ⟨qe,ce,rfl⟩:=own_f h3.e;obtain ⟨qk,ck,rfl⟩:=own_f h3.k;obtain ⟨qn,cn,rfl⟩:=own_f h3.n;have HG:=kj hG;have bp:=h3.box;have hp:=HP.out;have e0:=hfr.box d0 (by omega) (by omega);have e1:=hfr.box d1 (by omega) (by omega);have e2:=hfr.box d2 (by omega) (by omega);have hbe:=hfr.belowB hbw2 (by omega) (by omega);have cp:=bp.cell;have lp:=bp.lt;have c0:=e0.cell;have c1:=e1.cell;have c2:=e2.cell;have f0:=e0.free;have f1:=e1.free;have f2:=e2.free;have l0:=e0.lt;have l1:=e1.lt;have l2:=e2.lt;have n0:p≠W.heap.size:=by omega
   have n1:p≠W.heap.size+1:=by omega
   have n2:p≠W.heap.size+1+1:=by omega
   clear hG h3 HS hp hSt0 hfr d0 d1 d2
   go_upto_region 13 with fail
   go_region
   have hp:=HP.out;have hG1:=((((((((HG.out.set (j:=0) (u:=.slice qr t.rs.length cr) (by omega) n0).set (j:=1) (u:=.slice qz zs1.length cz) (by omega) n0).set (j:=2) (u:=.slice qk t.ls.length ck) (by omega) n0).set (j:=0) (u:=.slice ql t.rs.length cl) (by omega) n1).set (j:=1) (u:=.slice qe es1.length ce) (by omega) n1).set (j:=2) (u:=.slice qn t.ls.length cn) (by omega) n1).set (j:=0) (u:=.int .i64 0) (by omega) n2).set (j:=1) (u:=.int .i64 0) (by omega) n2).later (bd (Below.refl _ _));have hb1:=bd (bset (bset (bset (bset (bset (bset (bset (bset hbe (n:=W.heap.size) (o:=0) (v:=.slice qr t.rs.length cr) (by omega)) (n:=W.heap.size) (o:=1) (v:=.slice qz zs1.length cz) (by omega)) (n:=W.heap.size) (o:=2) (v:=.slice qk t.ls.length ck) (by omega)) (n:=W.heap.size+1) (o:=0) (v:=.slice ql t.rs.length cl) (by omega)) (n:=W.heap.size+1) (o:=1) (v:=.slice qe es1.length ce) (by omega)) (n:=W.heap.size+1) (o:=2) (v:=.slice qn t.ls.length cn) (by omega)) (n:=W.heap.size+1+1) (o:=0) (v:=.int .i64 0) (by omega)) (n:=W.heap.size+1+1) (o:=1) (v:=.int .i64 0) (by omega));have HF:=kj (And.intro hG1 hb1);clear hG1 hb1 hp bp e0 e1 e2 cp hbe;go_wp2;refine bodyPost_ret (v:=.tuple #[.agg #[.slice qr t.rs.length cr,.slice qz zs1.length cz,.slice qk t.ls.length ck],.agg #[.slice ql t.rs.length cl,.slice qe es1.length ce,.slice qn t.ls.length cn],.agg #[.int .i64 0,.int .i64 0]]) ?_ rfl ⟨w2.heap.size,p,.slice qr t.rs.length cr,.slice ql t.rs.length cl,.slice qz zs1.length cz,.slice qe es1.length ce,.slice qk t.ls.length ck,.slice qn t.ls.length cn,rfl,HF.out.1,HF.out.2⟩
   ·simp only [results,results149];go_simp
end RdR
end
section
open Go.RowKit Go.ChangeShapes Go.WideShapes
def Capd (v:Value):Prop:=∀ p n c,v=.slice p n c→n≤c∧c≤maxLen
theorem Capd.mk {p:Option Addr} {n c:Nat} (h:n≤c) (hc:c≤maxLen):Capd (.slice p n c):=by
 intro q m d e;cases e;exact ⟨h,hc⟩
structure HoldsC (w:World) (t:TabV):Prop where
 h:HoldsT w t
 r:Capd t.rv
 l:Capd t.lv
theorem HoldsC.later {w w':World} {t:TabV} (h:HoldsC w t) (hb:Below w.heap.size w w'):HoldsC w' t:=⟨h.h.later hb,h.r,h.l⟩
theorem HoldsG.take {α:Type} {k:Nat} {f:α→List Value} {w:World} {p:Option Addr} {n c m:Nat} {l:List α} (h:HoldsG k f w (.slice p n c) l) (hm:m≤l.length):HoldsG k f w (.slice p m c) (l.take m):=by
 refine ⟨?_,by rw [List.length_take];have:=h.len;omega⟩;rcases h.lies with ⟨q,d,e,hl⟩|⟨b,off,d,e,hb,hc⟩
 ·cases e;subst hl;have:m=0:=by simpa using hm
  subst this;exact .inl ⟨_,_,rfl,rfl⟩
 ·cases e;refine .inr ⟨b,off,_,by rw [List.length_take,Nat.min_eq_left hm],hb,fun i j cs v hi hj=> ?_⟩;rw [List.map_take,List.getElem?_take] at hi
  split at hi
  ·exact hc i j cs v hi hj
  ·cases hi
theorem Holds.take {w:World} {p:Option Addr} {n c m:Nat} {l:List RuleV} (h:Holds w (.slice p n c) l) (hm:m≤l.length):Holds w (.slice p m c) (l.take m):=by
 have hg:=h.g.take hm;refine ⟨hg.lies,fun r hr=>h.fit r (List.mem_of_mem_take hr),hg.len⟩
section
variable {H:Type} {enc:TypeId×Value→H} {w:World} {base:Nat} {spare:Nat→Bool} {held:Bool}
end
end
section
open Go.RowKit NB
namespace RdR
open Rd RWr
theorem up_few {m n:Nat} (h:m+n≤1000000):∀ x∈Ck.up m n,I64 x:=fun x hx=>by
 have:=Ck.up_mem hx;unfold I64;omega
theorem sumE_few:∀ (zs:List ZoneV),(∀ z∈zs,z.es.length≤1000)→Ck.sumE zs≤1000*zs.length
 | [],_=>by simp [Ck.sumE]
 |z :: zs,h=>by
  have h1:=h z (by simp);have h2:=sumE_few zs (fun y hy=>h y (by simp [hy]));show z.es.length+Ck.sumE zs≤1000*(zs.length+1);omega
theorem own_capd {w:World} {base:Nat} {e:TypeId} {sz:Nat} {v:Value} {n:Nat} {xs:List Value} (h:w.ownsRow base e sz v n xs):Capd v:=by
 rcases h.2 with ⟨rfl,hn⟩|⟨g,cap,cur,rfl,hb,hg,hnc,hcm,hsz,htk⟩
 ·exact Capd.mk (Nat.le_refl _) (Nat.zero_le _)
 ·exact Capd.mk hnc hcm
theorem Sm.of {a b:List ZoneV} (h:Sm a b) {x:ZoneV} (hx:x∈a):∃ z∈b,z.name=x.name∧z.es=x.es:=by
 have h1:(x.name,x.es)∈b.map (fun z=>(z.name,z.es)):=by
  rw [← h];exact List.mem_map.2 ⟨x,hx,rfl⟩
 obtain ⟨z,hz,e⟩:=List.mem_map.1 h1;exact ⟨z,hz,congrArg Prod.fst e,congrArg Prod.snd e⟩
theorem Got.holds {t:TabV} {w0:World} (ht:HoldsT w0 t) (hf:Fine1 t) {W:World} {B p:Nat} {rv lv zv ev kv nv:Value} (h:Got t W B p rv lv zv ev kv nv):
 ∃ (zs1:List ZoneV) (es:List RowN),HoldsC W ⟨rv,zv,kv,t.rs,zs1,t.ls⟩∧HoldsW W ⟨lv,ev,nv,Ck.up 0 t.rs.length,es,Ck.up (t.rs.length+Ck.sumE zs1) t.ls.length⟩∧Sm zs1 t.zs∧es.map RowN.ns=Ck.upE t.rs.length zs1:=by
 obtain ⟨F,zs1,es,hP,hs,hw⟩:=h;have hin:∀ x∈zs1,x.es.length≤12∧(∀ e∈x.es,e.Fit)∧x.name.size≤9223372036854775807:=fun x hx=>by
  obtain ⟨z,hz,e1,e2⟩:=hs.of hx;rw [← e1, ←e2];exact ⟨hf.l4 z hz,(ht.zf z hz).e.fit,(ht.zf z hz).n⟩
 have hzl:zs1.length≤10:=by rw [hs.len];exact hf.l2
 have hse:=sumE_few zs1 (fun z hz=>by have:=(hin z hz).1;omega);have hrl:=hf.l1;have hll:=hf.l3;have gr:HoldsG 11 RuleV.cells W rv t.rs:=HoldsG.of_own (f:=RuleV.cells) (fun _=>rfl) hP.r;have gz:HoldsG 2 ZoneV.cells W zv zs1:=HoldsG.of_own (f:=ZoneV.cells) (fun _=>rfl) hP.z;have gk:HoldsG 2 LinkV.cells W kv t.ls:=HoldsG.of_own (f:=LinkV.cells) (fun _=>rfl) hP.k;have ge:HoldsG 1 RowN.cells W ev es:=HoldsG.of_own (f:=RowN.cells) (fun _=>rfl) hP.e;have gl:HoldsG 1 intC W lv (Ck.up 0 t.rs.length):=HoldsG.of_own (f:=intC) (fun _=>rfl) (by rw [Ck.up_len];exact hP.l);have gn:HoldsG 1 intC W nv (Ck.up (t.rs.length+Ck.sumE zs1) t.ls.length):=HoldsG.of_own (f:=intC) (fun _=>rfl) (by rw [Ck.up_len];exact hP.n);have gzf:∀ x∈zs1,x.Fit W:=fun x hx=>by
  have g:HoldsG 13 EraV.cells W x.v x.es:=HoldsG.of_own (f:=EraV.cells) (fun _=>rfl) (hP.zf x hx);exact ⟨(hin x hx).2.2,⟨g.lies,(hin x hx).2.1,g.len⟩⟩
 refine ⟨zs1,es,⟨⟨⟨gr.lies,hf.rf,gr.len⟩,gz,gzf,gk,hf.lf⟩,own_capd hP.r,own_capd hP.k⟩,⟨gl,up_few (by omega),ge,fun y hy=>⟨HoldsG.of_own (f:=intC) (fun _=>rfl) (hP.ef y hy).1,?_⟩,gn,up_few (by omega)⟩,hs,hw⟩;intro n hn;have hm:n∈(Ck.upE t.rs.length zs1).flatten:=by
  rw [← hw];exact List.mem_flatten.2 ⟨y.ns,List.mem_map.2 ⟨y,hy,rfl⟩,hn⟩
 have:=Ck.upE_mem hm;unfold I64;omega
theorem rows_few {es:List RowN} {m:Nat} {zs:List ZoneV} (h:es.map RowN.ns=Ck.upE m zs) (hz:∀ z∈zs,z.es.length≤12):∀ y∈es,y.ns.length≤100:=by
 intro y hy;obtain ⟨k,hk⟩:=List.getElem?_of_mem hy;have h1:(Ck.upE m zs)[k]? =some y.ns:=by rw [← h,List.getElem?_map,hk];rfl
 have hk2:k<zs.length:=by
  have:=(List.getElem?_eq_some_iff.1 h1).1
  rwa [Ck.upE_len] at this
 have h2:=Ck.upE_zip (p:=(zs[k],y.ns)) (List.mem_of_getElem? (List.getElem?_zip_eq_some.2 ⟨List.getElem?_eq_getElem hk2,h1⟩));dsimp only at h2;have:=hz _ (List.getElem_mem hk2);omega
theorem fine1 {w:World} {t:TabV} (ht:HoldsT w t) (hl:Eqs.lightT t=true) (hr:rightT t=true):Fine1 t:=by
 obtain ⟨h1,h2,h3,h4,_⟩:=Ck.light_parts hl;refine ⟨hr,ht.r.fit,ht.lf,?_,h2,h3,fun z hz=> ?_⟩
 ·unfold Lgt.light at h1;rw [Bool.and_eq_true,decide_eq_true_eq] at h1;exact h1.1
 ·have:=h4 z hz;unfold Zn.lightZ at this;simp only [Bool.and_eq_true,decide_eq_true_eq] at this;exact this.1.1
end RdR
end
section
open Go.RowKit NB
namespace RCk
open Ck
theorem less (a b:Fault) (w:World):Calls prog 208 #[.agg #[.int .i64 a.1,.int .i64 a.2],.agg #[.int .i64 b.1,.int .i64 b.2]] w fun e w'=>e=.returned (.agg #[.int .i64 (Ck.less a b).1,.int .i64 (Ck.less a b).2])∧Below w.heap.size w w':=by
 obtain ⟨al,ae⟩:=a;obtain ⟨bl,be⟩:=b;unfold Ck.less;dsimp only
 by_cases h1:be=0
 ·rw [if_neg (fun h=>h.1 h1)];go_enter func208,ntmps208;go_wp2;refine bodyPost_ret (v:=.agg #[.int .i64 al,.int .i64 ae]) ?_ rfl ⟨rfl,?_⟩
  ·simp only [results,results208];go_simp
  ·exact bcq
 ·by_cases h2:ae=0
  ·rw [if_pos ⟨h1,.inl h2⟩];go_enter func208,ntmps208;go_wp2;refine bodyPost_ret (v:=.agg #[.int .i64 bl,.int .i64 be]) ?_ rfl ⟨rfl,?_⟩
   ·simp only [results,results208];go_simp
   ·exact bcq
  ·by_cases h3:bl<al
   ·rw [if_pos ⟨h1,.inr h3⟩];go_enter func208,ntmps208;go_wp2;refine bodyPost_ret (v:=.agg #[.int .i64 bl,.int .i64 be]) ?_ rfl ⟨rfl,?_⟩
    ·simp only [results,results208];go_simp
    ·exact bcq
   ·rw [if_neg (fun h=>h.2.elim h2 h3)];have e1:(be != 0)=true:=by simpa using h1
    have e2:(ae==0)=false:=by simpa using h2
    have e3:al≤bl:=by omega
    clear h1 h2 h3;go_enter func208,ntmps208;go_wp2
    all_goals
     refine bodyPost_ret (v:=.agg #[.int .i64 al,.int .i64 ae]) ?_ rfl ⟨rfl,?_⟩
     ·simp only [results,results208];go_simp
     ·exact bcq
end RCk
end
section
open Go.RowKit NB
namespace RCk
open Ck
set_option maxRecDepth 100000 in
set_option maxHeartbeats 3200000 in
theorem named {w:World} {v:Value} {l:List RuleV} (h:Holds w v l) (s:ByteArray):
 Calls prog 262 #[v,.string s] w fun e w'=>e=.returned (.bool (Ck.named l s))∧Below w.heap.size w w':=by
 have l1:=h.len;obtain ⟨p,cap,rfl,hp⟩:=h.g.pk;obtain ⟨n,hn⟩:∃ n,n=l.length:=⟨_,rfl⟩;rw [← hn] at l1 ⊢;have HN:=kj hn;have HP:=kj hp;clear hn hp h;go_enter func262,ntmps262;go_wp2
 go_loopw [9] (fun i wr=>∃ k:Nat,i=.int .i64 k∧k≤n∧Below w.heap.size w wr∧Hid (∀ j x,j<k→l[j]? =some x→x.name≠s)) (fun i _=>n-(intOf i).toNat)
 case atStart=>exact ⟨0,rfl,Nat.zero_le _,Below.refl _ _,fun j _ hj=>absurd hj (Nat.not_lt_zero _)⟩
 case round=>
  obtain ⟨k,rfl,hk,hbr,HS⟩:=hrel
  by_cases hlt:k<n
  ·obtain ⟨x,hx⟩:∃ x,l[k]? =some x:=⟨_,List.getElem?_eq_getElem (by rw [← HN.out];exact hlt)⟩;obtain ⟨g1,o1,rfl,hg1,d1⟩:=HP.out k x hx;replace d1:=fun j u hu=>(hbr.cell (p:=⟨g1,o1+k*11+j,none⟩) hg1).trans (d1 j u hu);have x0:=d1 0 _ rfl;have x1:=d1 1 _ rfl;have x2:=d1 2 _ rfl;have x3:=d1 3 _ rfl;have x4:=d1 4 _ rfl;have x5:=d1 5 _ rfl;have x6:=d1 6 _ rfl;have x7:=d1 7 _ rfl;have x8:=d1 8 _ rfl;have x9:=d1 9 _ rfl;have x10:=d1 10 _ rfl;rw [Nat.add_zero] at x0;clear d1;have q1:(k:Int)<(n:Int):=by omega
   have HX:=kj hx;clear hx
   by_cases he:x.name=s
   ·have e0:=str_eq he;have HE:Hid (Ck.named l s=true):=List.any_eq_true.2 ⟨x,List.mem_of_getElem? HX.out,decide_eq_true he⟩;clear he;go_wp2;go_ret;exact ⟨by rw [HE.out];rfl,bcq⟩
   ·have e0:=str_ne he;have HE:=kj he;clear he;go_wp2;go_roundw
    case rel=>
     refine ⟨k+1,by go_num,by omega,bcq,fun j y hj hy=> ?_⟩
     by_cases hjk:j=k
     ·subst hjk;rw [HX.out] at hy;cases hy;exact HE.out
     ·exact HS.out j y (by omega) hy
    case measure=>simp [intOf];omega
  ·obtain rfl:k=n:=by omega
   have HE:Hid (Ck.named l s=false):=List.any_eq_false.2 (fun x hm=>by
    obtain ⟨j,hj⟩:=List.mem_iff_getElem?.1 hm
    simpa using HS.out j x (by rw [HN.out];exact (List.getElem?_eq_some_iff.1 hj).1) hj)
   go_wp2;go_ret;exact ⟨by rw [HE.out];rfl,hbr⟩
set_option maxRecDepth 100000 in
set_option maxHeartbeats 3200000 in
theorem twice {w:World} {t:TabV} (h:HoldsT w t) {z:Nat} {y:ZoneV} (hz:t.zs[z]? =some y) (hlen:t.zs.length≤100000):
 Calls prog 261 #[.agg #[t.rv,t.zv,t.lv],.int .i64 z] w fun e w'=>e=.returned (.bool (((t.zs.take z).map ZoneV.name).any fun a=>decide (a=y.name)))∧Below w.heap.size w w':=by
 obtain ⟨rv,zv,lv,rs,zs,ls⟩:=t;dsimp only at hz hlen ⊢;obtain ⟨pr,cr,e1⟩:=h.r.form;obtain ⟨pl,cl,e3⟩:=h.l.form;obtain ⟨p,cap,e2,hp⟩:=h.z.pk;dsimp only at e1 e2 e3 hp;subst e1 e2 e3;obtain ⟨n,hn⟩:∃ n,n=zs.length:=⟨_,rfl⟩;have hzn:z<n:=by rw [hn];exact (List.getElem?_eq_some_iff.1 hz).1
 obtain ⟨g2,o2,hpe,hg2,d2⟩:=hp z y hz;rw [← hn] at hlen ⊢;have HN:=kj hn;have HP:=kj hp;have HZ:=kj hz;have HD2:=kj d2;clear hn hp h hz d2;generalize rs.length=nr at *;generalize ls.length=nl at *;have hb0:=Box.new w #[.slice pr nr cr,.slice p n cap,.slice pl nl cl] 26;obtain ⟨V,hV⟩:∃ V,V=w.alloc (.cells #[.slice pr nr cr,.slice p n cap,.slice pl nl cl] 26):=⟨_,rfl⟩;have hbV:Below w.heap.size w V:=by rw [hV];exact bcq
 rw [← hV] at hb0;have HV:=kj hV;clear hV;subst hpe;go_enter func261,ntmps261
 go_wp2_with (first|fail)
 rw [← HV.out]
 go_loopw [5] (fun i wr=>∃ k:Nat,i=.int .i64 k∧k≤z∧Below V.heap.size V wr∧Hid (∀ j x,j<k→zs[j]? =some x→x.name≠y.name)) (fun i _=>z-(intOf i).toNat)
 case atStart=>exact ⟨0,rfl,Nat.zero_le _,Below.refl _ _,fun j _ hj=>absurd hj (Nat.not_lt_zero _)⟩
 case round=>
  obtain ⟨k,rfl,hk,hbr,HS⟩:=hrel;have hbw:Below w.heap.size w wr:=hbV.trans (hbr.mono hbV.size);have c0:=(hb0.later hbr).cell
  by_cases hlt:k<z
  ·obtain ⟨x,hx⟩:∃ x,zs[k]? =some x:=⟨_,List.getElem?_eq_getElem (by rw [← HN.out];omega)⟩;obtain ⟨g1,o1,hge,hg1,d1⟩:=HP.out k x hx;obtain ⟨rfl,rfl,_⟩:g2=g1∧o2=o1∧True:=by simpa using hge
   have x0:=(hbw.cell (p:=⟨g2,o2+k*2+0,none⟩) hg2).trans (d1 0 _ rfl);have y0:=(hbw.cell (p:=⟨g2,o2+z*2+0,none⟩) hg2).trans (HD2.out 0 _ rfl);rw [Nat.add_zero] at x0 y0;clear d1 hge;have q1:(k:Int)<(z:Int):=by omega
   have q2:(k:Int)<(n:Int):=by omega
   have q3:(z:Int)<(n:Int):=by omega
   have HX:=kj hx;clear hx
   by_cases he:x.name=y.name
   ·have e0:=str_eq he;have HE:Hid ((((zs.take z).map ZoneV.name).any fun a=>decide (a=y.name))=true):=by
     refine List.any_eq_true.2 ⟨x.name,List.mem_map.2 ⟨x,?_,rfl⟩,decide_eq_true he⟩;exact List.mem_of_getElem? (i:=k) (by rw [List.getElem?_take,if_pos (by omega)];exact HX.out)
    clear he;go_wp2
    go_region
    all_goals
     go_wp2;go_ret;exact ⟨by rw [HE.out];rfl,bcq⟩
   ·have e0:=str_ne he;have HE:=kj he;clear he;go_wp2
    go_region
    all_goals
     go_wp2;go_roundw
     case rel=>
      refine ⟨k+1,by go_num,by omega,bcq,fun j u hj hy=> ?_⟩
      by_cases hjk:j=k
      ·subst hjk;rw [HX.out] at hy;cases hy;exact HE.out
      ·exact HS.out j u (by omega) hy
     case measure=>simp [intOf];omega
  ·obtain rfl:k=z:=by omega
   have HE:Hid ((((zs.take k).map ZoneV.name).any fun a=>decide (a=y.name))=false):=List.any_eq_false.2 (fun a hm=>by
    obtain ⟨x,hx,rfl⟩:=List.mem_map.1 hm;obtain ⟨j,hj⟩:=List.mem_iff_getElem?.1 hx;rw [List.getElem?_take] at hj
    split at hj
    ·simpa using HS.out j x (by omega) hj
    ·cases hj)
   go_wp2;go_ret;exact ⟨by rw [HE.out];rfl,bcq⟩
end RCk
end
section
open Go.RowKit NB Nxt
namespace Unt
theorem near_iff {l:List RuleV} {e:EraV} {a b:Int}:nearB l e a b=true↔NearP l e a b:=by unfold nearB;simp
theorem bad_14 {l:List RuleV} {es:List EraV} {L:List Int} {i:Nat} {t q:Int} (ht:L[i+1]? =some t) (hq:L[i]? =some q) (h:t≤q):badAt l es L (i+1)=14:=by
 unfold badAt;rw [ht];simp [hq,h]
theorem bad_15 {l:List RuleV} {es:List EraV} {L:List Int} {i:Nat} {t q:Int} (ht:L[i+1]? =some t) (hq:L[i]? =some q) (h:¬t≤q) (h2:t-q<345600):badAt l es L (i+1)=15:=by
 unfold badAt;rw [ht];simp [hq,h,h2]
open Classical in
theorem bad_near {l:List RuleV} {es:List EraV} {L:List Int} {i:Nat} {t:Int} {e f:EraV} (ht:L[i]? =some t) (he:es[i]? =some e) (hf:es[i+1]? =some f) (hp:i=0∨∃ q j,i=j+1∧L[j]? =some q∧¬t≤q∧¬t-q<345600):badAt l es L i=if nearB l e (t-172800) t=true∨nearB l f t (t+172800)=true then 15 else 0:=by
 have e1:=near_iff (l:=l) (e:=e) (a:=t-172800) (b:=t);have e2:=near_iff (l:=l) (e:=f) (a:=t) (b:=t+172800);have n1:nearO l es[i]? (t-172800) t↔NearP l e (t-172800) t:=by rw [he];exact Iff.rfl
 have n2:nearO l es[i+1]? t (t+172800)↔NearP l f t (t+172800):=by rw [hf];exact Iff.rfl
 have hq:∃ q,¬t≤q∧¬t-q<345600∧(if 0<i then (L[i-1]?).getD 0 else t-345600)=q:=by
  rcases hp with rfl|⟨q,j,rfl,hq,h1,h2⟩
  ·exact ⟨t-345600,by omega,by omega,rfl⟩
  ·exact ⟨q,h1,h2,by rw [if_pos (Nat.succ_pos j),Nat.add_sub_cancel,hq];rfl⟩
 obtain ⟨q,h1,h2,h3⟩:=hq;have hb:badAt l es L i=if t≤q then 14 else if t-q<345600∨nearO l es[i]? (t-172800) t∨nearO l es[i+1]? t (t+172800) then 15 else 0:=by
  unfold badAt;rw [ht, ←h3]
 rw [hb,if_neg h1]
 by_cases hA:nearB l e (t-172800) t=true∨nearB l f t (t+172800)=true
 ·rw [if_pos hA,if_pos (.inr (hA.imp (fun h=>n1.2 (e1.1 h)) (fun h=>n2.2 (e2.1 h))))]
 ·rw [if_neg hA,if_neg];rintro (h|h)
  ·exact h2 h
  ·exact hA (h.imp (fun h=>e1.2 (n1.1 h)) (fun h=>e2.2 (n2.1 h)))
end Unt
end
section
open Go.RowKit NB Nxt
namespace RUnt
open Unt
theorem near_list {l:List RuleV} {e:EraV} {a b:Int} (hl:l.length<10000) (hab:b-a≤200000) (hm:Chn.may e.off=true) (h:∀ x∈Occ.inL l e.rules (b+64801) ⟨-1,0,a-64800⟩ 10000,¬(a<Chn.inst l e.rules e.off x∧Chn.inst l e.rules e.off x<b)):¬NearP l e a b:=by
 rintro ⟨_,x,hx,h1,h2⟩;have ib:=Chn.inst_bd (l:=l) (name:=e.rules) hm x;have hr:=(Occ.all_bd hx).2.2.1;rcases Occ.inL_mem hx (T:=b+64801) (by omega) 10000 ⟨-1,0,a-64800⟩ (by rw [Occ.less_iff];simp only;omega) with h3|h3
 ·exact h x h3 ⟨h1,h2⟩
 ·have:=inL_few (l:=l) (name:=e.rules) (a:=a-64800) (T:=b+64801) (by omega) (n:=10000);omega
set_option maxRecDepth 100000 in
set_option maxHeartbeats 6400000 in
theorem near {w:World} {v:Value} {l:List RuleV} (h:Holds w v l) (e:EraV) (hR:Er.rightB e=true) (a b:Int) (ha0: -4000000000000≤a) (hab0:a≤b) (hab:b-a≤200000) (hb1:b≤4000000000000) (hl:l.length≤12):
 Calls prog 295 #[v,.agg e.cells.toArray,.int .i64 a,.int .i64 b] w fun x w'=>x=.returned (.bool (nearB l e a b))∧Below w.heap.size w w':=by
 by_cases hk:e.kind=2
 case neg=>
  rw [near_false (fun h=>hk h.1)];obtain ⟨q,cap,rfl⟩:=h.form;unfold EraV.cells;generalize l.length=n at *;go_enter func295,ntmps295;go_wp2;go_ret;exact ⟨rfl,bcq⟩
 have hm:Chn.may e.off=true:=Chn.may_iff.2 (right_spec hR).1;have cn:=fun W (h:Holds W v l)=>RIn.In h e.rules (a-64800) (b+64801) 10000 (by unfold I64;omega) (by decide);rw [show All.inO l e.rules (a-64800) (b+64801) 10000=Occ.inL l e.rules (b+64801) ⟨-1,0,a-64800⟩ 10000 by unfold All.inO;rw [if_pos (by omega)];rfl] at cn;have ci:=fun W (h:Holds W v l) (o:OccV)=>RCh.Instant h e.rules e.off o;have hnl:=fun hh=>near_false (near_list (l:=l) (e:=e) (a:=a) (b:=b) (by omega) hab hm hh);have hlen:=Occ.inL_len l e.rules (b+64801) 10000 ⟨-1,0,a-64800⟩;have hall:=fun x (hx:x∈Occ.inL l e.rules (b+64801) ⟨-1,0,a-64800⟩ 10000)=>(Occ.inL_all hx).1;generalize Occ.inL l e.rules (b+64801) ⟨-1,0,a-64800⟩ 10000=L at *;have hie:=fun (o:OccV) (ho:o∈L)=>Chn.instE_all hm (hall o ho);have hye:=fun (o:OccV) (ho:o∈L) h1 h2=>near_true (l:=l) (e:=e) (a:=a) (b:=b) ⟨hk,o,hall o ho,h1,h2⟩;generalize nearB l e a b=nb at *;obtain ⟨off,kind,save,rules,format,u⟩:=e;simp only at *;subst hk;obtain ⟨q,cap,rfl⟩:=h.form;unfold OccV.cells at *;unfold EraV.cells;simp only at *;have HH:=kj h;have Cn:=kj cn;have Ci:=kj ci;have Hnl:=kj hnl;have Hie:=kj hie;have Hye:=kj hye;clear h cn ci hnl hall hie hye hR hm;generalize l.length=n at *;go_enter func295,ntmps295
 go_upto_region 4 with (first
  |(go_at_call 313;(with_reducible refine (Cn.out _ ?_).mono ?_);(· exact HH.out.later bcq);rintro e W0 ⟨rv,rfl,hrow,hb3⟩;obtain ⟨rq,rc,hrv⟩:=Grp.own_form hrow;subst hrv))
 have kR:Box W0 w.heap.size #[.int .i64 off,.int .i64 2,.int .i64 save,.string rules,.string format,.bool u.has,.int .i64 u.year,.int .i64 u.month,.int .i64 u.kind,.int .i64 u.week,.int .i64 u.day,.int .i64 u.sec,.int .i64 u.base] 53:=(Box.new w _ _).later hb3;have hW0:Below w.heap.size w W0:=bcq;obtain ⟨m,hmL⟩:∃ m,m=L.length:=⟨_,rfl⟩;rw [← hmL] at hrow hlen ⊢;have hcell:0<m→∃ g,rq=some ⟨g,0,none⟩∧g<W0.heap.size∧∀ (j:Nat) (x:OccV),L[j]? =some x→∀ u,Below W0.heap.size W0 u→u.cell? ⟨g,j*3,none⟩=some (.int .i64 x.rule)∧u.cell? ⟨g,j*3+1,none⟩=some (.int .i64 x.year)∧u.cell? ⟨g,j*3+2,none⟩=some (.int .i64 x.nom):=by
  intro h0;obtain ⟨g,⟨c1,hq⟩,_,l1,r1⟩:=Grp.own_cell (j:=0) hrow h0;simp only [Value.slice.injEq] at hq;refine ⟨g,hq.1,l1,fun j x hx u hu=>⟨?_,?_,?_⟩⟩
  ·exact (hu.cell (p:=⟨g,j*3,none⟩) l1).trans (r1 _ _ (Grp.flat_at (f:=OccV.cells) (sz:=3) (fun _=>rfl) L j 0 x _ hx rfl))
  ·exact (hu.cell (p:=⟨g,j*3+1,none⟩) l1).trans (r1 _ _ (Grp.flat_at (f:=OccV.cells) (sz:=3) (fun _=>rfl) L j 1 x _ hx rfl))
  ·exact (hu.cell (p:=⟨g,j*3+2,none⟩) l1).trans (r1 _ _ (Grp.flat_at (f:=OccV.cells) (sz:=3) (fun _=>rfl) L j 2 x _ hx rfl))
 have HB0:=kj hW0;have HG:=kj hcell;have HM:=kj hmL;have HK:=kj kR;clear hW0 hcell hrow hmL hb3 kR
 go_loopw [26] (fun i wr=>∃ k:Nat,i=.int .i64 k∧k≤m∧(∀ (j:Nat) (x:OccV),j<k→L[j]? =some x→¬(a<Chn.inst l rules off x∧Chn.inst l rules off x<b))∧Below W0.heap.size W0 wr) (fun i _=>m-(intOf i).toNat)
 case atStart=>exact ⟨0,rfl,Nat.zero_le _,fun j x hj=>absurd hj (Nat.not_lt_zero _),Below.refl _ _⟩
 case round=>
  obtain ⟨k,rfl,hkm,hsp,hbel⟩:=hrel;have Hsp:=kj hsp;have hbx:=HK.out.later hbel;have r0:=hbx.cell;have u0:=hbx.lt;have HbW:=kj (HB0.out.trans (hbel.mono HB0.out.size));have Hbel:=kj hbel;clear hsp hbx
  by_cases hlt:k<m
  ·obtain ⟨g,rfl,hgl,hgc⟩:=HG.out (by omega);obtain ⟨o,ho⟩:∃ o,L[k]? =some o:=⟨L[k]'(by rw [← HM.out];exact hlt),by simp⟩;have hom:=List.mem_of_getElem? ho;obtain ⟨x0,x1,x2⟩:=hgc k o ho wr hbel;have ci1:=fun W h=>Ci.out W h o;rw [Hie.out o hom] at ci1;have hye:=Hye.out o hom;have Ho:=kj ho;obtain ⟨x,hx⟩:∃ x,x=Chn.inst l rules off o:=⟨_,rfl⟩;rw [← hx] at ci1 hye;simp only at ci1;have Ci1:=kj ci1;have Hx:=kj hx;clear ci1 hgc hbel hx ho hom
   by_cases hin:a<x∧x<b
   ·have hr:=kj (hye hin.1 hin.2);obtain ⟨h1,h2⟩:=hin;clear hye
    go_wp2_with (first
     |(go_at_call 193;(with_reducible refine (Ci1.out _ ?_).mono ?_);(· exact HH.out.later (bt HbW.out bcq));rintro e w2 ⟨rfl,hb2⟩;obtain ⟨hc2,hf2⟩:=bcell hb2))
    have hbel:=HbW.out;go_ret;exact ⟨congrArg (fun v=>Ending.returned (Value.bool v)) hr.out.symm,bcq⟩
   ·clear hye;rcases (by omega:x≤a∨(a<x∧b≤x)) with hx|⟨hx1,hx2⟩
    all_goals
     have Hin:=kj hin;clear hin
     go_wp2_with (first
      |(go_at_call 193;(with_reducible refine (Ci1.out _ ?_).mono ?_);(· exact HH.out.later (bt HbW.out bcq));rintro e w2 ⟨rfl,hb2⟩;obtain ⟨hc2,hf2⟩:=bcell hb2))
     have hbel:=Hbel.out;go_roundw
     case rel=>
      refine ⟨k+1,by go_num,hlt,fun j y hj hy=> ?_,bcq⟩;rcases (by omega:j<k∨j=k) with h1|rfl
      ·exact Hsp.out j y h1 hy
      ·rw [Ho.out] at hy;cases hy;rw [← Hx.out];exact Hin.out
     case measure=>simp [intOf];omega
  ·have hkm':k=m:=by omega
   have hr:=kj (Hnl.out (fun x hx=>by
    obtain ⟨j,hj⟩:=List.mem_iff_getElem?.1 hx;refine Hsp.out j x ?_ hj;have:=(List.getElem?_eq_some_iff.1 hj).1;have:=HM.out;omega))
   clear hbel;go_wp2;go_ret;exact ⟨congrArg (fun v=>Ending.returned (Value.bool v)) hr.out.symm,HbW.out⟩
end RUnt
end
end Go.Proofs.YtgmfojgnjdpofaaGreatDoor
