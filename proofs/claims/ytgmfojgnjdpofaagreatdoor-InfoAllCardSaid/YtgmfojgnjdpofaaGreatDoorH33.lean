import Derived.Test.YtgmfojgnjdpofaaGreatDoorH31
import Derived.Test.YtgmfojgnjdpofaaGreatDoorH7
import Derived.Test.YtgmfojgnjdpofaaGreatDoorH11
import Derived.Test.YtgmfojgnjdpofaaGreatDoorH3
import Derived.Lib.SliceRun
import Derived.Test.YtgmfojgnjdpofaaGreatDoorH32
import Derived.Test.YtgmfojgnjdpofaaGreatDoorH14
import Derived.Test.YtgmfojgnjdpofaaGreatDoorH18
namespace Go.Proofs.YtgmfojgnjdpofaaGreatDoor
open Go.Proofs.Tryz
section
open Go.RowKit NB Nxt
namespace Frc
set_option maxHeartbeats 3200000 in
set_option maxRecDepth 100000 in
theorem instant0 {w:World} {b g:Nat} {l:List RuleV} {e:EraV} {r:Value} (_hv:View w b l e r g) (o:OccV):
 Calls prog 99 #[.pointer (some ⟨b,0,none⟩),.agg o.cells.toArray,.bool false] w fun x w'=>x=.returned (.tuple #[.int .i64 0,.bool false])∧Below w.heap.size w w':=by
 unfold OccV.cells;go_enter func99,ntmps99;go_wp2;go_ret2;exact ⟨rfl,bcq⟩
set_option maxHeartbeats 3200000 in
set_option maxRecDepth 100000 in
theorem instant1 {w:World} {b g:Nat} {l:List RuleV} {e:EraV} {r:Value} (hv:View w b l e r g) (o:OccV):
 Calls prog 99 #[.pointer (some ⟨b,0,none⟩),.agg o.cells.toArray,.bool true] w fun x w'=>x=.returned (.tuple #[.int .i64 (Chn.instE l e.rules e.off o).1,.bool true])∧Below w.heap.size w w':=by
 have ci:=fun W (h:Holds W r l)=>ChW.Instant h e.rules e.off o;generalize Chn.instE l e.rules e.off o=ie at *;obtain ⟨ie1,ie2⟩:=ie;simp only at ci ⊢;unfold OccV.cells at *;have Ci:=kj ci;have HV:=kj hv;have bV:=hv.box;unfold viewC at bV;have cV:=bV.cell;have lV:=bV.lt;obtain ⟨rp,rc,rfl⟩:=hv.rules.form;clear ci hv bV;generalize l.length=n at *;go_enter func99,ntmps99
 go_upto_region 3 with fail
 have b4:Box (w.alloc (.cells #[.int .i64 o.rule,.int .i64 o.year,.int .i64 o.nom] 156)) w.heap.size #[.int .i64 o.rule,.int .i64 o.year,.int .i64 o.nom] 156:=Box.new w _ _;have hBX:Below w.heap.size w (w.alloc (.cells #[.int .i64 o.rule,.int .i64 o.year,.int .i64 o.nom] 156)):=bcq;generalize (w.alloc (.cells #[.int .i64 o.rule,.int .i64 o.year,.int .i64 o.nom] 156))=X at *;have HX:=kj (HV.out.rules.later hBX);have cX:∀ o,X.cell? ⟨b,o,none⟩=_:=fun o=>(hBX.cell (p:=⟨b,o,none⟩) lV).trans (cV o);have lX:b<X.heap.size:=Nat.lt_of_lt_of_le lV hBX.size;have k4:=b4.cell;have l4:=b4.lt;have HBX:=kj hBX;clear cV hBX b4
 (refine region_later (by kernel_rfl) (by kernel_rfl) ?_;(repeat (go_big_quiet_step (first|(go_at_call 160;rename_i xL;apply calls_later xL (Nat.le_refl _);exact (Ci.out _ (HX.out.later xL.h))))));refine wpQuiet_nil ?_;rintro _ ⟨⟨u3,hu3⟩,rfl⟩)
 go_wp2;go_ret2;exact ⟨rfl,bt HBX.out hu3⟩
theorem flat_inv {l:List RuleV} {j:Nat} {u:Value} (h:(l.flatMap RuleV.cells)[j]? =some u):∃ x,l[j/11]? =some x∧x.cells[j%11]? =some u:=by
 have hj:=(List.getElem?_eq_some_iff.1 h).1;have hlen:(l.flatMap RuleV.cells).length=l.length*11:=by
  clear h hj
  induction l with
  |nil=>rfl
  |cons y r ih=>rw [List.flatMap_cons,List.length_append,ih,show y.cells.length=11 from rfl,List.length_cons];omega
 have hi:j/11<l.length:=by omega
 obtain ⟨x,hx⟩:∃ x,l[j/11]? =some x:=⟨l[j/11],by simp⟩;have hc:j%11<x.cells.length:=by show j%11<11;omega
 have:=Grp.flat_at (f:=RuleV.cells) (sz:=11) (fun _=>rfl) l (j/11) (j%11) x _ hx (List.getElem?_eq_getElem hc);rw [show j/11*11+j%11=j by omega,h] at this;exact ⟨x,hx,by rw [List.getElem?_eq_getElem hc];exact this.symm⟩
theorem flat_one (l:List RuleV):∀ u∈l.flatMap RuleV.cells,u.oneCell'=true:=by
 intro u hu;obtain ⟨x,_,hx⟩:=List.mem_flatMap.1 hu;unfold RuleV.cells at hx;simp only [List.mem_cons,List.not_mem_nil,or_false] at hx;rcases hx with rfl|rfl|rfl|rfl|rfl|rfl|rfl|rfl|rfl|rfl|rfl<;>rfl
theorem flat_len (l:List RuleV):(l.flatMap RuleV.cells).length=l.length*11:=by
 induction l with
 |nil=>rfl
 |cons y r ih=>rw [List.flatMap_cons,List.length_append,ih,show y.cells.length=11 from rfl,List.length_cons];omega
theorem CloneA (w:World) (l:List RuleV) (hn:l.length≤100000) (_b _off c:Nat) (_sp:Option Unit) (ad:Addr) (hc:∀ j u,(l.flatMap RuleV.cells)[j]? =some u→w.cell? (ad.add j)=some u) (hlt:l≠[]→ad.block<w.heap.size):Calls prog 166 #[.slice (some ad) l.length c] w fun e w'=>∃ v',e=.returned v'∧w'.ownsRow w.heap.size 57 11 v' l.length (l.flatMap RuleV.cells)∧Below w.heap.size w w':=by
 obtain ⟨i0,hi,hz0,hz1,hz2⟩:=info_parts Chk.info_rule;have q22:∀ (w:World) (a:Option Addr) (n c n' c':Nat),(binOp .eql 22 (.slice a n c) (.slice none n' c')).run prog w=.ok (.bool a.isNone) w:=fun w a n c n' c'=>Go.Lib.run_eql_slice_nil w _ _ a n c n' c' underlying22;have A:=kj hc;have h1:=flat_one l;have h2:=flat_len l;have HL:=kj hlt;generalize hN:l.flatMap RuleV.cells=news at *;generalize hn':l.length=n at *;clear hc hN hlt;go_enter func166,ntmps166
 go_wp2_with (at_builtin;refine wpList_append_own _ rfl _ _ 22 rfl w.heap.size 57 i0 _ 11 104 underlying22 hi hz0 hz1 hz2 rfl (by decide) _ _ _ rfl (World.ownsRow_made w #[] 0 (Nat.le_refl _) (Nat.zero_le _) (by simp)) ad n c news rfl ?qc1 ?qc2 ?qc3 ?qc4 ?qc5 ?qc6 ?_)
 case qc1=>exact h2
 case qc2=>
  intro j u hj;exact Go.Lib.cell?_alloc_some _ (A.out j u hj)
 case qc3=>exact h1
 case qc4=>rw [Nat.zero_add];unfold maxLen;omega
 case qc5=>rw [Nat.zero_add];omega
 case qc6=>simp
 intro v' w1 hown hgrow hnil;go_wp2;go_ret;refine ⟨v',rfl,by simpa using hown,?_⟩;exact ((Below.refl _ w).alloc (Nat.le_refl _) _).grown hgrow (by simp) (by intro k hk;simp [Value.ownBlock] at hk;omega)
theorem CloneR {w:World} {v:Value} {l:List RuleV} (h:Holds w v l) (hn:l.length≤100000):Calls prog 166 #[v] w fun e w'=>∃ v',e=.returned v'∧w'.ownsRow w.heap.size 57 11 v' l.length (l.flatMap RuleV.cells)∧Below w.heap.size w w':=by
 rcases h.lies with ⟨p,cap,rfl,rfl⟩|⟨b,off,cap,rfl,h2,h3⟩
 ·cases p with
  |none=>
   have q22:∀ (w:World) (a:Option Addr) (n c n' c':Nat),(binOp .eql 22 (.slice a n c) (.slice none n' c')).run prog w=.ok (.bool a.isNone) w:=fun w a n c n' c'=>Go.Lib.run_eql_slice_nil w _ _ a n c n' c' underlying22;go_enter func166,ntmps166;go_wp2;go_ret;exact ⟨_,rfl,World.ownsRow_nil _ _ _ _,bcq⟩
  |some ad=>exact CloneA w [] (by simp) 0 0 cap none ad (fun j u hu=>by simp at hu) (fun h=>absurd rfl h)
 ·refine CloneA w l hn 0 0 cap none ⟨b,off,none⟩ (fun j u hu=> ?_) (fun _=>h2);obtain ⟨x,hx,hc⟩:=flat_inv hu;rw [addr_add];have:=h3 (j/11) (j%11) _ u (by rw [List.getElem?_map,hx];rfl) hc;rw [show off+j/11*11+j%11=off+j by omega] at this;exact this
end Frc
end
section
open Go.RowKit NB Nxt
namespace Frc
def ox (e:EraV) (v:ValV) (x:RuleV):RuleV:=if valX e x=v then { x with name:=⟨#[]⟩} else x
def othX (l:List RuleV) (e:EraV) (v:ValV):List RuleV:=l.map (ox e v)
theorem othX_at {l:List RuleV} {e:EraV} {v:ValV} {k:Nat} {x:RuleV} (h:l[k]? =some x):(othX l e v)[k]? =some (ox e v x):=by
 unfold othX;rw [List.getElem?_map,h];rfl
theorem ox_fit {e:EraV} {v:ValV} {x:RuleV} (h:x.Fit):(ox e v x).Fit:=by
 unfold ox
 split
 ·exact ⟨by show (⟨#[]⟩:ByteArray).size≤_;decide,h.l,h.fr,h.to,h.sec,h.save⟩
 ·exact h
def Done (l:List RuleV) (e:EraV) (v:ValV) (k:Nat) (C:Array Value):Prop:=∀ (i:Nat) (x:RuleV),l[i]? =some x→∀ (j:Nat) (u:Value),(if i<k then ox e v x else x).cells[j]? =some u→C[i*11+j]? =some u
theorem Done.skip {l:List RuleV} {e:EraV} {v:ValV} {k:Nat} {C:Array Value} (h:Done l e v k C) {y:RuleV} (hy:l[k]? =some y) (hn:¬valX e y=v):Done l e v (k+1) C:=by
 intro i x hx j u hu;refine h i x hx j u ?_
 by_cases hi:i<k
 ·rw [if_pos hi];rw [if_pos (by omega)] at hu;exact hu
 ·rw [if_neg hi]
  by_cases hi2:i<k+1
  ·obtain rfl:i=k:=by omega
   rw [hy] at hx;cases hx;rw [if_pos hi2] at hu;unfold ox at hu;rw [if_neg hn] at hu;exact hu
  ·rw [if_neg hi2] at hu;exact hu
theorem Done.put {l:List RuleV} {e:EraV} {v:ValV} {k:Nat} {C:Array Value} (h:Done l e v k C) (hC:l.length*11≤C.size) {y:RuleV} (hy:l[k]? =some y) (hn:valX e y=v):Done l e v (k+1) (C.setIfInBounds (k*11) (.string ⟨#[]⟩)):=by
 intro i x hx j u hu;have hkl:=(List.getElem?_eq_some_iff.1 hy).1;have hj:j<11:=(List.getElem?_eq_some_iff.1 hu).1
 by_cases hi:i=k
 ·subst hi;rw [hy] at hx;cases hx;rw [if_pos (by omega)] at hu;unfold ox at hu;rw [if_pos hn] at hu
  by_cases hj0:j=0
  ·subst hj0;cases hu;rw [Nat.add_zero,Array.getElem?_setIfInBounds_self_of_lt (by omega)]
  ·rw [Array.getElem?_setIfInBounds_ne (by omega)];refine h i y hy j u ?_;rw [if_neg (by omega)];obtain ⟨j',rfl⟩:∃ j',j=j'+1:=⟨j-1,by omega⟩;exact hu
 ·rw [Array.getElem?_setIfInBounds_ne (by omega)];refine h i x hx j u ?_
  by_cases hi1:i<k
  ·rw [if_pos hi1];rw [if_pos (by omega)] at hu;exact hu
  ·rw [if_neg hi1];rw [if_neg (by omega)] at hu;exact hu
theorem row_box {w:World} {base:Nat} {v':Value} {l:List RuleV} (h:w.ownsRow base 57 11 v' l.length (l.flatMap RuleV.cells)) (h0:0<l.length):∃ (gc cap:Nat) (C:Array Value),v'=.slice (some ⟨gc,0,none⟩) l.length cap∧base≤gc∧Box w gc C 57∧l.length*11≤C.size∧∀ e v,Done l e v 0 C:=by
 rcases h.2 with ⟨hv,h2⟩|⟨gc,cap,cur,hv,hg,hh,hle,hcap,hcs,htk⟩
 ·omega
 ·refine ⟨gc,cap,cur,hv,hg,hh,by rw [hcs];exact Nat.mul_le_mul_right _ hle,fun e v i x hx j u hu=> ?_⟩;rw [if_neg (Nat.not_lt_zero _)] at hu;have h1:=Grp.flat_at (f:=RuleV.cells) (sz:=11) (fun _=>rfl) l i j x u hx hu;rw [← htk,List.getElem?_take] at h1
  split at h1
  ·simpa using h1
  ·cases h1
set_option maxHeartbeats 3200000 in
set_option maxRecDepth 100000 in
theorem others1 {w:World} {b g:Nat} {l:List RuleV} {e:EraV} {r:Value} (hv:View w b l e r g) (hn:l.length≤100000) (v:ValV) (h0:0<l.length):
 Calls prog 101 #[.pointer (some ⟨b,0,none⟩),.agg v.cells.toArray] w fun x w'=>∃ v',x=.returned v'∧Holds w' v' (othX l e v)∧Below w.heap.size w w':=by
 have cc:=fun W (h:Holds W r l)=>CloneR h hn;unfold ValV.cells;have Cc:=kj cc;have HV:=kj hv;have bV:=hv.box;unfold viewC at bV;have cV:=bV.cell;have lV:=bV.lt;obtain ⟨rp,rc,rfl⟩:=hv.rules.form;have HVV:=kj hv.vals;have lg:=hv.lt;clear cc hv bV;obtain ⟨n,hnl⟩:∃ n,n=l.length:=⟨_,rfl⟩;rw [← hnl] at hn h0 cV Cc;have HN:=kj hnl;clear hnl;go_enter func101,ntmps101
 go_upto_region 3 with (go_at_call 166;(with_reducible refine (Cc.out _ ?_).mono ?_);(· rw [HN.out];exact HV.out.rules.later bcq);rintro x w2 ⟨v',rfl,hrow,hb2⟩;obtain ⟨gc,cap,C,hv',hgc,bC,hC,hD⟩:=row_box (by rw [HN.out] at hrow;exact hrow) (by rw [← HN.out];exact h0);rw [← HN.out] at hv' hC;subst hv';obtain ⟨hc2_0,hf2_0,hz2_0⟩:=bcs hb2 (w.heap.size);obtain ⟨hc2_1,hf2_1,hz2_1⟩:=bcs hb2 (b))
 have bP:Box w2 w.heap.size #[.int .i64 v.off,.int .i64 v.save,.string v.abbr] 30:=bxq;have hbel:Below w.heap.size w w2:=bcq;have hgc':w.heap.size+1≤gc:=by rw [World.size_alloc] at hgc;exact hgc
 have hd0:=hD e v;clear hrow hb2 hc2_0 hf2_0 hc2_1 hf2_1 hz2_0 hz2_1 hgc hD cV
 go_loopw [14] (fun i wr=>∃ k:Nat,i=.int .i64 k∧k≤n∧Below w.heap.size w wr∧Box wr w.heap.size #[.int .i64 v.off,.int .i64 v.save,.string v.abbr] 30∧∃ C:Array Value,Box wr gc C 57∧n*11≤C.size∧Done l e v k C) (fun i _=>n-(intOf i).toNat)
 case atStart=>exact ⟨0,rfl,Nat.zero_le _,hbel,bP,C,bC,hC,hd0⟩
 case round=>
  clear hbel bP bC hC hd0 C;obtain ⟨k,rfl,hk,hbel,bP,C,bC,hC,hD⟩:=hrel;have HD:=kj hD;have HbW:=kj hbel;have HP:=kj bP;have HC:=kj bC;have cP:=bP.cell;have lP:=bP.lt;have lC:=bC.lt;have cV:=(HV.out.later hbel).box.cell;have lVr:b<wr.heap.size:=Nat.lt_of_lt_of_le lV hbel.size;have lgr:g<wr.heap.size:=Nat.lt_of_lt_of_le lg hbel.size;unfold viewC at cV;rw [← HN.out] at cV;clear hD bP bC
  by_cases hlt:k<n
  ·obtain ⟨x,hx⟩:∃ x,l[k]? =some x:=⟨l[k]'(by rw [← HN.out];exact hlt),by simp⟩;have hvv:∀ (j:Nat) (u:Value),(valX e x).cells[j]? =some u→wr.cell? ⟨g,k*3+j,none⟩=some u:=fun j u hu=>(hbel.cell (p:=⟨g,k*3+j,none⟩) lg).trans (HVV.out k x hx j u hu);obtain ⟨y,hy⟩:∃ y,y=valX e x:=⟨_,rfl⟩;rw [← hy] at hvv;have y0:=hvv 0 _ rfl;have y1:=hvv 1 _ rfl;have y2:=hvv 2 _ rfl;simp only [Nat.add_zero] at y0;have HY:=kj hy;have Hx:=kj hx;clear hvv hy hx hbel
   by_cases hyv:y=v
   ·subst hyv;obtain ⟨v0,hv0⟩:∃ v,C[k*11]? =some v:=⟨C[k*11]'(by omega),by simp⟩;have g0:=(HC.out.cell (k*11)).trans hv0;have f0:=HC.out.free (k*11);go_wp2
    go_quiet (fail)
    go_wp2;have hbel:=HbW.out;refine ⟨⟨k+1,by go_num,hlt,bcq,Box.other (HP.out.drewN _) (by omega),_,(HC.out.drewN _).set,by simp;omega,HD.out.put (by rw [← HN.out];exact hC) Hx.out HY.out.symm⟩,by simp [intOf];omega⟩
   ·have hnx:¬valX e x=v:=fun h=>hyv (HY.out.trans h);have Hnx:=kj hnx;have hcs:y.off≠v.off∨(y.off=v.off∧y.save≠v.save)∨(y.off=v.off∧y.save=v.save∧y.abbr≠v.abbr):=by
     obtain ⟨yo,ys,ya⟩:=y;obtain ⟨vo,vs,va⟩:=v;simp only [ValV.mk.injEq,not_and] at hyv ⊢
     by_cases h1:yo=vo
     ·by_cases h2:ys=vs
      ·exact .inr (.inr ⟨h1,h2,hyv h1 h2⟩)
      ·exact .inr (.inl ⟨h1,h2⟩)
     ·exact .inl h1
    clear hnx hyv;rcases hcs with h1|⟨h1,h2⟩|⟨h1,h2,h3⟩
    ·have e1:(y.off==v.off)=false:=by simpa using h1
     clear h1;go_wp2
     go_quiet (fail)
     go_wp2;have hbel:=HbW.out;refine ⟨⟨k+1,by go_num,hlt,bcq,HP.out.drewN _,_,HC.out.drewN _,hC,HD.out.skip Hx.out Hnx.out⟩,by simp [intOf];omega⟩
    ·have e1:(y.save==v.save)=false:=by simpa using h2
     rw [h1] at y0;clear h1 h2;go_wp2
     go_quiet (fail)
     go_wp2;have hbel:=HbW.out;refine ⟨⟨k+1,by go_num,hlt,bcq,HP.out.drewN _,_,HC.out.drewN _,hC,HD.out.skip Hx.out Hnx.out⟩,by simp [intOf];omega⟩
    ·have e1:=str_ne h3;rw [h1] at y0;rw [h2] at y1;clear h1 h2 h3;go_wp2
     go_quiet (fail)
     go_wp2;have hbel:=HbW.out;refine ⟨⟨k+1,by go_num,hlt,bcq,HP.out.drewN _,_,HC.out.drewN _,hC,HD.out.skip Hx.out Hnx.out⟩,by simp [intOf];omega⟩
  ·have hkn:k=n:=by omega
   subst hkn;have hn':=HN.out;subst hn';clear cV cP;go_wp2;go_ret;refine ⟨_,rfl,?_,HbW.out⟩;refine ⟨.inr ⟨gc,0,cap,by unfold othX;simp,lC,?_⟩,fun z hz=> ?_,by unfold othX;simp;omega⟩
   ·intro i j cs u hi hj;unfold othX at hi;rw [List.map_map,List.getElem?_map] at hi;cases hx:l[i]? with
    |none=>rw [hx] at hi;cases hi
    |some x=>
     rw [hx] at hi;cases hi;rw [Nat.zero_add,HC.out.cell];exact HD.out i x hx j u (by rw [if_pos (List.getElem?_eq_some_iff.1 hx).1];exact hj)
   ·unfold othX at hz;obtain ⟨x,hx,rfl⟩:=List.mem_map.1 hz;exact ox_fit (HV.out.rules.fit x hx)
end Frc
end
section
open Go.RowKit NB Nxt
namespace Frc
set_option maxHeartbeats 3200000 in
set_option maxRecDepth 100000 in
theorem others0 {w:World} {b g:Nat} {e:EraV} {r:Value} (hv:View w b [] e r g) (v:ValV):
 Calls prog 101 #[.pointer (some ⟨b,0,none⟩),.agg v.cells.toArray] w fun x w'=>∃ v',x=.returned v'∧Holds w' v' []∧Below w.heap.size w w':=by
 have cc:=fun W (h:Holds W r [])=>CloneR h (by simp);unfold ValV.cells;have Cc:=kj cc;have HV:=kj hv;have bV:=hv.box;unfold viewC at bV;have cV:=bV.cell;have lV:=bV.lt;clear cc hv bV;go_enter func101,ntmps101
 go_upto_region 3 with (go_at_call 166;(with_reducible refine (Cc.out _ ?_).mono ?_);(· exact HV.out.rules.later bcq);rintro x w2 ⟨v',rfl,hrow,hb2⟩;obtain ⟨q,c,hv'⟩:=Grp.own_form hrow;subst hv';obtain ⟨hc2_0,hf2_0,_⟩:=bcs hb2 (w.heap.size);obtain ⟨hc2_1,hf2_1,_⟩:=bcs hb2 (b))
 have hbel:Below w.heap.size w w2:=bcq;have HbW:=kj hbel;simp only [List.length_nil] at *;clear hrow hb2 hc2_0 hf2_0 hc2_1 hf2_1 cV hbel
 go_loopw [14] (fun i wr=>i=.int .i64 0∧wr=w2) (fun i _=>0)
 case atStart=>exact ⟨rfl,rfl⟩
 case round=>
  obtain ⟨rfl,rfl⟩:=hrel;go_wp2;go_ret;exact ⟨_,rfl,⟨.inl ⟨_,_,rfl,rfl⟩,by simp,by simp⟩,HbW.out⟩
theorem others {w:World} {b g:Nat} {l:List RuleV} {e:EraV} {r:Value} (hv:View w b l e r g) (hn:l.length≤100000) (v:ValV):
 Calls prog 101 #[.pointer (some ⟨b,0,none⟩),.agg v.cells.toArray] w fun x w'=>∃ v',x=.returned v'∧Holds w' v' (othX l e v)∧Below w.heap.size w w':=by
 by_cases h0:0<l.length
 ·exact others1 hv hn v h0
 ·have:l=[]:=List.eq_nil_of_length_eq_zero (by omega);subst this;exact others0 hv v
theorem all_othX {l:List RuleV} {e:EraV} {v:ValV} {n:Nat} {o:OccV} (hn:e.rules≠⟨#[]⟩):Occ.All (othX l e v) e.rules n o↔Occ.All l e.rules n o∧valAt l e o.rule≠v:=by
 constructor
 ·rintro ⟨i,r,hi,hr,hnm,hR,hof⟩;unfold othX at hr;rw [List.getElem?_map] at hr;cases h0:l[i]? with
  |none=>rw [h0] at hr;cases hr
  |some r0=>
   rw [h0] at hr;simp only [Option.map_some,Option.some.injEq] at hr;unfold ox at hr
   by_cases hc:valX e r0=v
   ·rw [if_pos hc] at hr;subst hr;exact absurd hnm.symm hn
   ·rw [if_neg hc] at hr;subst hr;refine ⟨⟨i,r0,hi,h0,hnm,hR,hof⟩,fun hv=>hc ?_⟩;rw [show o.rule=(i:Int) by rw [hof.2.2];rfl,val_rule h0] at hv;unfold valX;rw [if_pos hnm];exact hv
 ·rintro ⟨⟨i,r,hi,hr,hnm,hR,hof⟩,hv⟩;rw [show o.rule=(i:Int) by rw [hof.2.2];rfl,val_rule hr] at hv;refine ⟨i,r,hi,?_,hnm,hR,hof⟩;rw [othX_at hr];unfold ox valX;rw [if_pos hnm,if_neg hv]
theorem othX_len (l:List RuleV) (e:EraV) (v:ValV):(othX l e v).length=l.length:=by unfold othX;simp
theorem next_othX {l:List RuleV} {e:EraV} {v:ValV} (hn:e.rules≠⟨#[]⟩) (fr:OccV):Occ.nextO (othX l e v) e.rules fr=Occ.nextO (othV l e v) e.rules fr:=by
 have h1:=Occ.best_next (othX l e v) e.rules fr;have h2:=Occ.best_next (othV l e v) e.rules fr;rw [othX_len] at h1;rw [oth_len] at h2;exact Occ.Best.unique Occ.weak_less (h1.congr fun o=>(all_othX hn).trans (all_oth hn).symm) h2
theorem prev_othX {l:List RuleV} {e:EraV} {v:ValV} (hn:e.rules≠⟨#[]⟩) (fr:OccV):Occ.prevO (othX l e v) e.rules fr=Occ.prevO (othV l e v) e.rules fr:=by
 have h1:=Occ.best_prev (othX l e v) e.rules fr;have h2:=Occ.best_prev (othV l e v) e.rules fr;rw [othX_len] at h1;rw [oth_len] at h2;exact Occ.Best.unique Occ.weak_more (h1.congr fun o=>(all_othX hn).trans (all_oth hn).symm) h2
noncomputable def atR (l:List RuleV) (e:EraV) (t:Int):ValV×OccV×Bool:=if e.kind=2 then (stateV l e t,(lastP l e t).getD ⟨0,0,0⟩,(lastP l e t).isSome) else (valR e e.save ⟨#[]⟩,⟨0,0,0⟩,false)
theorem atW {w:World} {b g:Nat} {l:List RuleV} {e:EraV} {r:Value} (hv:View w b l e r g) (he:e.Fit) (ht:Tab w) (t:Int) (hn:l.length≤100000):
 Calls prog 98 #[.pointer (some ⟨b,0,none⟩),.int .i64 t] w fun x w'=>x=.returned (.tuple #[.agg (atR l e t).1.cells.toArray,.agg (atR l e t).2.1.cells.toArray,.bool (atR l e t).2.2])∧Below w.heap.size w w':=by
 unfold atR
 by_cases hk:e.kind=2
 ·rw [if_pos hk];cases hl:lastP l e t with
  |none=>exact atN hv he ht t hk hn hl
  |some o=>exact atS hv he ht t hk hn o hl
 ·rw [if_neg hk];exact atK hv he ht t hk
set_option maxHeartbeats 3200000 in
set_option maxRecDepth 100000 in
theorem At {w:World} {r:Value} {l:List RuleV} (hr:Holds w r l) (e:EraV) (he:e.Fit) (t:Int) (ht:Tab w) (hs:∀ x∈l,x.letter.size≤1000000) (hn:l.length≤100000):
 Calls prog 51 #[r,.agg e.cells.toArray,.int .i64 t] w fun x w'=>x=.returned (.tuple #[.agg (atV l e t).1.cells.toArray,.int .i64 (atV l e t).2])∧Below w.heap.size w w':=by
 have cr:=fun W (h:Tab W)=>Er.Right e he W h;have co:=fun W (h:Holds W r l) (ht:Tab W)=>of1 e he h ht hs hn;have HH:=kj hr;have HT:=kj ht;unfold atV;cases hR:Er.rightB e
 ·rw [hR] at cr;rw [if_neg (by decide)];unfold EraV.cells ValV.cells at *;have Cr:=kj cr;clear cr co hr ht hs;go_enter func51,ntmps51
  go_wp2_with (go_at_call 96;(with_reducible refine (Cr.out _ ?_).mono ?_);(· exact HT.out.later bcq);rintro e w1 ⟨rfl,hb1⟩;obtain ⟨hc1_0,hf1_0,hz1_0⟩:=bcs hb1 (w.heap.size);obtain ⟨hc1_1,hf1_1,hz1_1⟩:=bcs hb1 (w.heap.size+1))
  refine bodyPost_ret (v:=.tuple #[.agg #[.int .i64 0,.int .i64 0,.string ⟨#[]⟩],.int .i64 4]) ?_ rfl ⟨rfl,?_⟩
  ·simp only [results,results51];go_simp
  ·exact bcq
 ·rw [hR] at cr;rw [if_pos rfl];have ca:=fun W b g (h:View W b l e r g) (h':Tab W)=>atW h he h' t hn;obtain ⟨y,hy⟩:∃ y,y=(atR l e t).1:=⟨_,rfl⟩;have hy':y=(if e.kind=2 then (stateV l e t,(0:Int)) else (valR e e.save ⟨#[]⟩,0)).1:=by rw [hy];unfold atR;split<;>rfl
  have hy2:(if e.kind=2 then (stateV l e t,(0:Int)) else (valR e e.save ⟨#[]⟩,0))=(y,0):=by rw [hy'];split<;>rfl
  rw [hy2];rw [← hy] at ca;obtain ⟨o,ho⟩:∃ o,o=(atR l e t).2.1:=⟨_,rfl⟩;obtain ⟨f,hf⟩:∃ f,f=(atR l e t).2.2:=⟨_,rfl⟩;rw [← ho, ←hf] at ca;simp only;unfold EraV.cells ValV.cells OccV.cells at *;have Cr:=kj cr;have Co:=kj co;have Ca:=kj ca;clear cr co ca hr ht hs hy hy' hy2 ho hf;go_enter func51,ntmps51
  go_wp2_with (first
   |(go_at_call 96;(with_reducible refine (Cr.out _ ?_).mono ?_);(· exact HT.out.later bcq);rintro e w1 ⟨rfl,hb1⟩;obtain ⟨hc1_0,hf1_0,hz1_0⟩:=bcs hb1 (w.heap.size);obtain ⟨hc1_1,hf1_1,hz1_1⟩:=bcs hb1 (w.heap.size+1))
   |(go_at_call 97;(with_reducible refine (Co.out _ ?_ ?_).mono ?_);(· exact HH.out.later bcq);(· exact HT.out.later bcq);rintro z w2 ⟨b,g,rfl,hvw,hb2⟩;obtain ⟨_,_,_⟩:=bcs hb2 (w.heap.size);obtain ⟨_,_,_⟩:=bcs hb2 (w.heap.size+1))
   |(go_at_call 98;(with_reducible refine (Ca.out _ _ _ hvw ?_).mono ?_);(· exact HT.out.later bcq);rintro z w3 ⟨rfl,hb3⟩;obtain ⟨_,_,_⟩:=bcs hb3 (w.heap.size);obtain ⟨_,_,_⟩:=bcs hb3 (w.heap.size+1)))
  refine bodyPost_ret (v:=.tuple #[.agg #[.int .i64 y.off,.int .i64 y.save,.string y.abbr],.int .i64 0]) ?_ rfl ⟨rfl,?_⟩
  ·simp only [results,results51];go_simp
  ·exact bcq
end Frc
end
section
open Go.RowKit NB
namespace Pt
structure Ok (t:TabV):Prop where
 good:GoodT t
 lets:∀ x∈t.rs,x.letter.size≤1000000
 rn:t.rs.length≤1000
 zn:t.zs.length≤1000
 en:∀ z∈t.zs,z.es.length≤1000
theorem ints_eq (L:List Int):Zn.ints L=L.flatMap intC:=by
 induction L with
 |nil=>rfl
 |cons a r ih=>
  rw [List.flatMap_cons, ←ih];rfl
theorem ends_h {l:List RuleV} {es:List EraV} (hg:GoodE l es) {w w':World} {e:Ending} (h:Zn.EndsPost w l es e w'):∃ v,e=.returned (.tuple #[v,.int .i64 0])∧HoldsG 1 intC w' v (Zn.endsL l es)∧Below w.heap.size w w':=by
 obtain ⟨v,rfl,ho,hb⟩:=h;obtain ⟨h1,h2,_⟩:=Unt.check_zone (l:=l) hg.zone;rw [h1];rw [h2,ints_eq] at ho;exact ⟨v,rfl,HoldsG.of_own (k:=1) (f:=intC) (fun _=>rfl) ho,hb⟩
theorem ends_c {w:World} {t:TabV} (ht:HoldsT w t) (hf:Ok t) (tb:Tab w) {z:ZoneV} (hz:z∈t.zs):Calls prog 94 #[t.rv,.agg #[.string z.name,z.v]] w fun e w'=>∃ v,e=.returned (.tuple #[v,.int .i64 0])∧HoldsG 1 intC w' v (Zn.endsL t.rs z.es)∧Below w.heap.size w w':=
 (Zn.Ends ht.r (ht.zf z hz).e z.name (by have:=hf.en z hz;omega) tb).mono fun _ _ h=>ends_h (hf.good z hz) h
set_option maxRecDepth 100000 in
set_option maxHeartbeats 3200000 in
theorem Era {w:World} {t:TabV} (ht:HoldsT w t) (hf:Ok t) (tb:Tab w) (zone s:Int) (_hs:I64 s):
 Calls prog 50 #[.agg #[t.rv,t.zv,t.lv],.int .i64 zone,.int .i64 s] w fun e w'=>e=.returned (.tuple #[.int .i64 (eraV t zone s).1,.int .i64 (eraV t zone s).2])∧Below w.heap.size w w':=by
 have ce:=fun (W:World) (h:HoldsT W t) (tb:Tab W) (z:ZoneV) hz=>ends_c h hf tb (z:=z) hz;have HTT:=kj ht;have HTB:=kj tb;obtain ⟨p,cap,e1⟩:=ht.r.form;obtain ⟨pz,capz,e3,hpz⟩:=ht.z.pk;have hfz:=ht.zf
 by_cases h0:zone<0
 ·rw [(val_none s (zone_none (t:=t) (.inl h0))).2];obtain ⟨rv,zv,lv,rs,zs,ls⟩:=t;dsimp only at e1 e3 ⊢;subst e1 e3;clear ce HTT HTB hpz hfz ht hf tb;go_enter func50,ntmps50;go_wp2;go_ret2;exact ⟨rfl,bcq⟩
 by_cases h1:(t.zs.length:Int)≤zone
 ·rw [(val_none s (zone_none (t:=t) (.inr h1))).2];obtain ⟨rv,zv,lv,rs,zs,ls⟩:=t;dsimp only at e1 e3 h1 ⊢;subst e1 e3;clear ce HTT HTB hpz hfz ht hf tb;go_enter func50,ntmps50;go_wp2;go_ret2;exact ⟨rfl,bcq⟩
 obtain ⟨k,rfl⟩:∃ k:Nat,zone=(k:Int):=⟨zone.toNat,by omega⟩;obtain ⟨z,hzz,hz⟩:=zone_some (t:=t) (zone:=(k:Int)) (by omega) (by omega);rw [Int.toNat_natCast] at hz
 by_cases ho:s<lo∨hi<s
 ·rw [(val_out hzz ho).2];obtain ⟨rv,zv,lv,rs,zs,ls⟩:=t;dsimp only at e1 e3 h1 ⊢;subst e1 e3;clear ce HTT HTB hpz hfz ht hf tb hz hzz;unfold lo hi at ho
  by_cases h2:s < -1096193779200
  ·go_enter func50,ntmps50;go_wp2;go_ret2;exact ⟨rfl,bcq⟩
  ·have h3:971890963199<s:=by omega
   go_enter func50,ntmps50;go_wp2;go_ret2;exact ⟨rfl,bcq⟩
 have hzm:=(zone_mem hzz).2.2.2;have hg:=hf.good z hzm;have hen:=hf.en z hzm;have hev:eraV t (k:Int) s=(((idx (Zn.endsL t.rs z.es) s:Nat):Int),0):=by
  unfold eraV;rw [hzz];simp only;rw [if_neg ho]
 have hsr:∀ (W:World) (v:Value),HoldsG 1 intC W v (Zn.endsL t.rs z.es)→Calls prog 95 #[v,.int .i64 (s+1)] W fun e w'=>(∃ u:Value,e=.returned (.tuple #[.int .i64 (idx (Zn.endsL t.rs z.es) s),u]))∧Below W.heap.size W w':=fun W v h=>(search h (by have:=Unt.ends_len (l:=t.rs) hg.zone;omega) hg.sort s).mono fun e w' hh=>⟨hh.1,hh.2 ▸ Below.refl _ _⟩;have ce2:=fun (W:World) (h:HoldsT W t) (tb:Tab W)=>ce W h tb z hzm;clear ce;rw [hev];unfold lo hi at ho;obtain ⟨I,hI⟩:∃ I,I=idx (Zn.endsL t.rs z.es) s:=⟨_,rfl⟩;rw [← hI] at hsr ⊢;obtain ⟨L,hL⟩:∃ L,L=Zn.endsL t.rs z.es:=⟨_,rfl⟩;rw [← hL] at hsr ce2;clear hI hL hg hen hev;obtain ⟨g1,o1,e4,hg1,d1⟩:=hpz k z hz;have x0:=d1 0 _ rfl;have x1:=d1 1 _ rfl;rw [Nat.add_zero] at x0;obtain ⟨pp,cc,e5⟩:=(hfz z hzm).e.form;obtain ⟨rv,zv,lv,rs,zs,ls⟩:=t;obtain ⟨nm,xv,es⟩:=z;dsimp only at e1 e3 e4 e5 h1 ce2 x0 x1 HTT ⊢;subst e1 e3 e4 e5;generalize es.length=m at *;generalize rs.length=n at *;generalize zs.length=nz at *;have CE:=kj ce2;have CS:=kj hsr;clear ce2 hsr hpz hfz ht hf tb hz hzz hzm d1;have q1:¬s < -1096193779200:=by omega
 have q2:¬971890963199<s:=by omega
 have q3:k<nz:=by omega
 clear ho;go_enter func50,ntmps50
 go_upto_region 1 with fail
 obtain ⟨w1,hw1⟩:∃ V,V=w.alloc (.cells #[.slice p n cap,.slice (some ⟨g1,o1,none⟩) nz capz,lv] 26):=⟨_,rfl⟩;have b1:Box w1 w.heap.size #[.slice p n cap,.slice (some ⟨g1,o1,none⟩) nz capz,lv] 26:=by rw [hw1];exact Box.new _ _ _
 have hB1:Below w.heap.size w w1:=by rw [hw1];exact bcq
 rw [← hw1];clear hw1;have HS:=kj (fun (V:World) (h:Below w1.heap.size w1 V)=>(⟨(b1.later h).cell,((hB1.trans (h.mono hB1.size)).cell (p:=⟨g1,o1+k*2,none⟩) hg1).trans x0,((hB1.trans (h.mono hB1.size)).cell (p:=⟨g1,o1+k*2+1,none⟩) hg1).trans x1⟩:(∀ j,V.cell? ⟨w.heap.size,j,none⟩=(#[.slice p n cap,.slice (some ⟨g1,o1,none⟩) nz capz,lv]:Array Value)[j]?)∧V.cell? ⟨g1,o1+k*2,none⟩=some (.string nm)∧V.cell? ⟨g1,o1+k*2+1,none⟩=some (.slice pp m cc)));obtain ⟨c1,y0,y1⟩:=HS.out w1 (Below.refl _ _);have HB1:=kj hB1;clear x0 x1 hB1
 go_upto_region 5 with fail
 go_region_held3 (fun w'=>(∀ j,w'.cell? ⟨w.heap.size,j,none⟩=(#[.slice p n cap,.slice (some ⟨g1,o1,none⟩) nz capz,lv]:Array Value)[j]?)∧w'.cell? ⟨g1,o1+k*2,none⟩=some (.string nm)∧w'.cell? ⟨g1,o1+k*2+1,none⟩=some (.slice pp m cc)) ((refine HS.out _ ?_;exact bcq)) (first
  |(go_at_call 94;(with_reducible refine (CE.out _ ?_ ?_).mono ?_);(· exact HTT.out.later (HB1.out.trans (Below.mono bcq HB1.out.size)));(· exact HTB.out.later (HB1.out.trans (Below.mono bcq HB1.out.size)));rintro e w2 ⟨v2,rfl,hl2,hb2⟩;have HL2:=kj hl2;clear hl2))
 go_wp2_with (go_at_call 95;(with_reducible refine (CS.out _ _ HL2.out).mono ?_);rintro e w3 ⟨⟨u,rfl⟩,hb3⟩)
 go_ret2;exact ⟨rfl,HB1.out.trans (Below.mono bcq HB1.out.size)⟩
end Pt
end
end Go.Proofs.YtgmfojgnjdpofaaGreatDoor
