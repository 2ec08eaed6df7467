import Derived.Test.YtgmfojgnjdpofaaGreatDoorH31
import Derived.Test.YtgmfojgnjdpofaaGreatDoorH7
namespace Go.Proofs.YtgmfojgnjdpofaaGreatDoor
open Go.Proofs.Tryz
section
open Go.RowKit NB Nxt
namespace Frc
theorem find_hit {α:Type} {p:α→Bool}:∀ {l:List α} {k:Nat} {x:α},l[k]? =some x→p x=true→(∀ (j:Nat) (y:α),j<k→l[j]? =some y→p y=false)→l.find? p=some x
 | [],k,x,h,_,_=>by simp at h
 |a :: l,0,x,h,hp,_=>by
  simp only [List.getElem?_cons_zero,Option.some.injEq] at h;subst h;rw [List.find?_cons_of_pos hp]
 |a :: l,k+1,x,h,hp,hn=>by
  rw [List.getElem?_cons_succ] at h;rw [List.find?_cons_of_neg (by rw [hn 0 a (by omega) rfl];decide)];exact find_hit h hp (fun j y hj hy=>hn (j+1) y (by omega) (by rw [List.getElem?_cons_succ];exact hy))
theorem find_miss {α:Type} {p:α→Bool} {l:List α} (hn:∀ (j:Nat) (y:α),l[j]? =some y→p y=false):l.find? p=none:=by
 rw [List.find?_eq_none];intro x hx;obtain ⟨j,hj⟩:=List.mem_iff_getElem?.1 hx;rw [hn j x hj];decide
def ahead (e:EraV) (r:RuleV):Bool:=decide (r.name=e.rules)&&decide (r.save=0)
theorem first_hit {l:List RuleV} {e:EraV} {k:Nat} {x:RuleV} (hx:l[k]? =some x) (hp:ahead e x=true) (hn:∀ (j:Nat) (y:RuleV),j<k→l[j]? =some y→ahead e y=false):firstV l e=valX e x:=by
 unfold firstV;rw [show l.find? (fun r=>decide (r.name=e.rules)&&decide (r.save=0))=some x from find_hit hx hp hn];unfold ahead at hp;simp only [Bool.and_eq_true,decide_eq_true_eq] at hp;unfold valX valO;rw [if_pos hp.1,hp.2]
theorem first_miss {l:List RuleV} {e:EraV} (hn:∀ (j:Nat) (y:RuleV),l[j]? =some y→ahead e y=false):firstV l e=valR e 0 ⟨#[]⟩:=by
 unfold firstV;rw [show l.find? (fun r=>decide (r.name=e.rules)&&decide (r.save=0))=none from find_miss hn]
set_option maxHeartbeats 3200000 in
set_option maxRecDepth 100000 in
theorem first {w:World} {b g:Nat} {l:List RuleV} {e:EraV} {r:Value} (hv:View w b l e r g) (he:e.Fit) (ht:Tab w) (hn:l.length≤100000):
 Calls prog 103 #[.pointer (some ⟨b,0,none⟩)] w fun x w'=>x=.returned (.agg (firstV l e).cells.toArray)∧Below w.heap.size w w':=by
 obtain ⟨rp,rc,rfl⟩:=hv.rules.form;have cval:=fun W h h'=>value e he.f (.slice rp l.length rc) g l.length b 0 ⟨#[]⟩ (by decide) W h h';obtain ⟨F,hF⟩:∃ F,F=firstV l e:=⟨_,rfl⟩;rw [← hF];have HF:=kj hF;have HR:=kj hv.rules;have HV:=kj hv.vals;have lg:=hv.lt;have HT:=kj ht;have hb:=hv.box;clear hv ht hF;obtain ⟨n,hnl⟩:∃ n,n=l.length:=⟨_,rfl⟩;rw [← hnl] at hn hb cval HR;have HN:=kj hnl;have Cval:=kj cval;clear hnl cval;have HB:=kj hb;unfold viewC at hb;have c0:=hb.cell;have l0:=hb.lt;clear hb;go_enter func103,ntmps103
 go_upto_region 2 with fail
 have bR:Box (w.alloc (.cells #[.int .i64 0,.int .i64 0,.string ⟨#[]⟩] 30)) w.heap.size #[.int .i64 0,.int .i64 0,.string ⟨#[]⟩] 30:=Box.new w _ _;have hbel:Below w.heap.size w (w.alloc (.cells #[.int .i64 0,.int .i64 0,.string ⟨#[]⟩] 30)):=bcq;generalize (w.alloc (.cells #[.int .i64 0,.int .i64 0,.string ⟨#[]⟩] 30))=X at *;clear c0
 go_loopw [10] (fun i wr=>∃ k:Nat,i=.int .i64 k∧k≤n∧(∀ (j:Nat) (y:RuleV),j<k→l[j]? =some y→ahead e y=false)∧Below w.heap.size w wr∧Box wr w.heap.size #[.int .i64 0,.int .i64 0,.string ⟨#[]⟩] 30) (fun i _=>n-(intOf i).toNat)
 case atStart=>exact ⟨0,rfl,Nat.zero_le _,fun j y hj=>absurd hj (Nat.not_lt_zero _),hbel,bR⟩
 case round=>
  clear hbel bR;obtain ⟨k,rfl,hk,hno,hbel,bR⟩:=hrel;have Hno:=kj hno;have HbW:=kj hbel;have HbR:=kj bR;have bV:Box wr b (viewC e (.slice rp n rc) g n) 211:=HB.out.later hbel;have HbV:=kj bV;unfold viewC at bV;have cV:=bV.cell;have lV:=bV.lt;have cR:=bR.cell;have lR:=bR.lt;have fR:=bR.free;clear hno hbel bR bV
  by_cases hlt:k<n
  ·obtain ⟨x,hx⟩:∃ x,l[k]? =some x:=⟨l[k]'(by rw [← HN.out];exact hlt),by simp⟩;obtain ⟨rb,off,cap,hq,hb,hcl⟩:=hat HR.out hx;simp only [Value.slice.injEq] at hq;obtain ⟨rfl, -,rfl⟩:=hq;have hd:∀ (j:Nat) (u:Value),x.cells[j]? =some u→wr.cell? ⟨rb,off+k*11+j,none⟩=some u:=fun j u hu=>(HbW.out.cell (p:=⟨rb,off+k*11+j,none⟩) hb).trans (hcl j u hu);have hbU:rb<wr.heap.size:=Nat.lt_of_lt_of_le hb HbW.out.size;have d0:=hd 0 _ rfl;have d1:=hd 1 _ rfl;have d2:=hd 2 _ rfl;have d3:=hd 3 _ rfl;have d4:=hd 4 _ rfl;have d5:=hd 5 _ rfl;have d6:=hd 6 _ rfl;have d7:=hd 7 _ rfl;have d8:=hd 8 _ rfl;have d9:=hd 9 _ rfl;have d10:=hd 10 _ rfl;simp only [Nat.add_zero] at d0;have hgU:g<wr.heap.size:=Nat.lt_of_lt_of_le lg HbW.out.size;have hvv:∀ (j:Nat) (u:Value),(valX e x).cells[j]? =some u→wr.cell? ⟨g,k*3+j,none⟩=some u:=fun j u hu=>(HbW.out.cell (p:=⟨g,k*3+j,none⟩) lg).trans (HV.out k x hx j u hu);obtain ⟨y,hy⟩:∃ y,y=valX e x:=⟨_,rfl⟩;rw [← hy] at hvv;have y0:=hvv 0 _ rfl;have y1:=hvv 1 _ rfl;have y2:=hvv 2 _ rfl;simp only [Nat.add_zero] at y0;have HY:=kj hy;have Hx:=kj hx;clear hd hcl hx hvv hy
   by_cases hp:ahead e x=true
   ·have hr:=kj (HF.out.trans ((first_hit Hx.out hp Hno.out).trans HY.out.symm));unfold ahead at hp;simp only [Bool.and_eq_true,decide_eq_true_eq] at hp;obtain ⟨hnm,hsv⟩:=hp;have e1:=str_eq hnm;clear hnm;go_wp2
    go_quiet (fail)
    go_wp2;have hbel:=HbW.out;refine bodyPost_ret (v:=.agg #[.int .i64 y.off,.int .i64 y.save,.string y.abbr]) ?_ rfl ⟨by rw [hr.out];rfl,?_⟩
    ·simp only [results,results103];go_simp
    ·exact bcq
   ·have hno':∀ (j:Nat) (z:RuleV),j<k+1→l[j]? =some z→ahead e z=false:=by
     intro j z hj hz;rcases (by omega:j<k∨j=k) with h|rfl
     ·exact Hno.out j z h hz
     ·rw [Hx.out] at hz;cases hz
      simpa using hp
    have Hno2:=kj hno';clear hno'
    by_cases hnm:x.name=e.rules
    ·have hsv:¬x.save=0:=fun h=>hp (by unfold ahead;simp [hnm,h]);have e1:=str_eq hnm;clear hnm hp;go_wp2
     go_quiet (fail)
     go_wp2;have hbel:=HbW.out;have bR:=HbR.out;go_roundw
     case rel=>exact ⟨k+1,by go_num,hlt,Hno2.out,bcq,bxq⟩
     case measure=>simp [intOf];omega
    ·have e1:=str_ne hnm;clear hnm hp;go_wp2
     go_quiet (fail)
     go_wp2;have hbel:=HbW.out;have bR:=HbR.out;go_roundw
     case rel=>exact ⟨k+1,by go_num,hlt,Hno2.out,bcq,bxq⟩
     case measure=>simp [intOf];omega
  ·have hr:=kj (HF.out.trans (first_miss fun j z hz=>Hno.out j z (by have:=(List.getElem?_eq_some_iff.1 hz).1;rw [← HN.out] at this;omega) hz));obtain ⟨y,hy⟩:∃ y,y=valR e 0 ⟨#[]⟩:=⟨_,rfl⟩;have cval:∀ W,Box W b (viewC e (.slice rp n rc) g n) 211→Tab W→Calls prog 158 #[.pointer (some ⟨b,0,none⟩),.int .i64 0,.string ⟨#[]⟩] W fun z w'=>z=.returned (.agg #[.int .i64 y.off,.int .i64 y.save,.string y.abbr])∧Below W.heap.size W w':=fun W h h'=>by rw [hy];exact Cval.out W h h'
   rw [← hy] at hr;have Cv:=kj cval;clear cval hy cV
   go_wp2_with (go_at_call 158;(with_reducible refine (Cv.out _ ?_ ?_).mono ?_);(· have bV:=HbV.out;exact bxq);(· exact HT.out.later (bt HbW.out bcq));rintro e2 w2 ⟨rfl,hb2⟩;obtain ⟨_,_,_⟩:=bcs hb2 (w.heap.size))
   have hbel:=HbW.out;refine bodyPost_ret (v:=.agg #[.int .i64 y.off,.int .i64 y.save,.string y.abbr]) ?_ rfl ⟨by rw [hr.out];rfl,?_⟩
   ·simp only [results,results103];go_simp
   ·exact bcq
end Frc
end
section
open Go.RowKit NB Nxt
namespace Frc
theorem last_all {l:List RuleV} {e:EraV} {t:Int} {o:OccV} (h:lastP l e t=some o):Occ.All l e.rules l.length o:=by
 unfold lastP at h;cases hm:Chn.may e.off
 ·unfold Chn.lastO at h;rw [hm] at h;cases h
 ·have hs:=Chn.last_spec (l:=l) (name:=e.rules) (off:=e.off) (t:=t) hm;rw [h] at hs;exact hs.1
theorem boxS1 (X:World) (o:Obj) (cs:Array Value) (t:TypeId):Box ((X.alloc o).alloc (.cells cs t)) (X.heap.size+1) cs t:=by
 have:=Box.new (X.alloc o) cs t
 rwa [World.size_alloc] at this
theorem boxS2 (X:World) (o o':Obj) (cs:Array Value) (t:TypeId):Box (((X.alloc o).alloc o').alloc (.cells cs t)) (X.heap.size+1+1) cs t:=by
 have:=Box.new ((X.alloc o).alloc o') cs t
 rwa [World.size_alloc,World.size_alloc] at this
set_option maxHeartbeats 3200000 in
set_option maxRecDepth 100000 in
theorem atK {w:World} {b g:Nat} {l:List RuleV} {e:EraV} {r:Value} (hv:View w b l e r g) (he:e.Fit) (ht:Tab w) (t:Int) (hk:¬e.kind=2):
 Calls prog 98 #[.pointer (some ⟨b,0,none⟩),.int .i64 t] w fun x w'=>x=.returned (.tuple #[.agg (valR e e.save ⟨#[]⟩).cells.toArray,.agg #[.int .i64 0,.int .i64 0,.int .i64 0],.bool false])∧Below w.heap.size w w':=by
 obtain ⟨y,hy⟩:∃ y,y=valR e e.save ⟨#[]⟩:=⟨_,rfl⟩;have cval:∀ W,Box W b (viewC e r g l.length) 211→Tab W→Calls prog 158 #[.pointer (some ⟨b,0,none⟩),.int .i64 e.save,.string ⟨#[]⟩] W fun z w'=>z=.returned (.agg #[.int .i64 y.off,.int .i64 y.save,.string y.abbr])∧Below W.heap.size W w':=fun W h h'=>by rw [hy];exact value e he.f r g l.length b e.save ⟨#[]⟩ (by decide) W h h'
 rw [← hy];have Cv:=kj cval;have HT:=kj ht;have HB:=kj hv.box;have bV:=hv.box;unfold viewC at bV;have cV:=bV.cell;have lV:=bV.lt;clear cval hy hv ht bV;go_enter func98,ntmps98
 go_wp2_with (go_at_call 158;(with_reducible refine (Cv.out _ ?_ ?_).mono ?_);(· have bV:=HB.out;exact bxq);(· exact HT.out.later bcq);rintro e2 w2 ⟨rfl,hb2⟩;obtain ⟨_,_,_⟩:=bcs hb2 (w.heap.size);obtain ⟨_,_,_⟩:=bcs hb2 (w.heap.size+1))
 refine bodyPost_ret (v:=.tuple #[.agg #[.int .i64 y.off,.int .i64 y.save,.string y.abbr],.agg #[.int .i64 0,.int .i64 0,.int .i64 0],.bool false]) ?_ rfl ⟨rfl,?_⟩
 ·simp only [results,results98];go_simp
 ·exact bcq
set_option maxHeartbeats 3200000 in
set_option maxRecDepth 100000 in
theorem atN {w:World} {b g:Nat} {l:List RuleV} {e:EraV} {r:Value} (hv:View w b l e r g) (he:e.Fit) (ht:Tab w) (t:Int) (hk:e.kind=2) (hn:l.length≤100000) (hlast:lastP l e t=none):
 Calls prog 98 #[.pointer (some ⟨b,0,none⟩),.int .i64 t] w fun x w'=>x=.returned (.tuple #[.agg (stateV l e t).cells.toArray,.agg #[.int .i64 0,.int .i64 0,.int .i64 0],.bool false])∧Below w.heap.size w w':=by
 obtain ⟨y,hy⟩:∃ y,y=stateV l e t:=⟨_,rfl⟩;have hf:y=firstV l e:=by rw [hy];unfold stateV;rw [hlast]
 have cf:∀ W,View W b l e r g→Tab W→Calls prog 103 #[.pointer (some ⟨b,0,none⟩)] W fun z w'=>z=.returned (.agg #[.int .i64 y.off,.int .i64 y.save,.string y.abbr])∧Below W.heap.size W w':=fun W h h'=>by rw [hf];exact first h he h' hn
 have cl:=fun W (h:Holds W r l)=>ChW.Last h e.rules e.off t;unfold lastP at hlast;rw [hlast] at cl;unfold optV at cl;simp only at cl;rw [← hy];have Cf:=kj cf;have Cl:=kj cl;have HT:=kj ht;have HV:=kj hv;have bV:=hv.box;unfold viewC at bV;rw [hk] at bV;have cV:=bV.cell;have lV:=bV.lt;obtain ⟨rp,rc,rfl⟩:=hv.rules.form;clear cf cl hy hf hlast hv ht bV;generalize l.length=n at *;have hS:∀ u:World,Below w.heap.size w u→∀ o,u.cell? ⟨b,o,none⟩=(#[.int .i64 e.off,.int .i64 2,.int .i64 e.save,.string e.rules,.string e.format,.bool e.u.has,.int .i64 e.u.year,.int .i64 e.u.month,.int .i64 e.u.kind,.int .i64 e.u.week,.int .i64 e.u.day,.int .i64 e.u.sec,.int .i64 e.u.base,.slice rp n rc,.slice (some ⟨g,0,none⟩) n n]:Array Value)[o]? :=fun u hu o=>(hu.cell (p:=⟨b,o,none⟩) lV).trans (cV o);have HS:=kj hS;clear hS;go_enter func98,ntmps98
 go_upto_region 3 with fail
 go_cut [7,8] from 23 to 41 (fun s7 s8 wx=>∃ p7:Nat,s7=.pointer (some ⟨p7,0,none⟩)∧s8=.bool false∧w.heap.size+1<p7∧Box wx p7 #[.int .i64 0,.int .i64 0,.int .i64 0] 156∧Box wx w.heap.size #[.int .i64 0,.int .i64 0,.string ⟨#[]⟩] 30∧Box wx (w.heap.size+1) #[.int .i64 0,.int .i64 0,.int .i64 0] 156∧Below w.heap.size w wx)
 case first=>
  go_region_held3 (fun w'=>∀ o,w'.cell? ⟨b,o,none⟩=(#[.int .i64 e.off,.int .i64 2,.int .i64 e.save,.string e.rules,.string e.format,.bool e.u.has,.int .i64 e.u.year,.int .i64 e.u.month,.int .i64 e.u.kind,.int .i64 e.u.week,.int .i64 e.u.day,.int .i64 e.u.sec,.int .i64 e.u.base,.slice rp n rc,.slice (some ⟨g,0,none⟩) n n]:Array Value)[o]?) ((refine HS.out _ ?_;exact bcq)) (first|(go_at_call 159;(with_reducible refine (Cl.out _ ?_).mono ?_);(· exact HV.out.rules.later bcq);rintro e2 w2 ⟨rfl,hb2⟩;obtain ⟨hcq2,hfq2⟩:=bcell hb2;obtain ⟨_,_,_⟩:=bcs hb2 (w.heap.size);obtain ⟨_,_,_⟩:=bcs hb2 (w.heap.size+1);obtain ⟨_,_,_⟩:=bcs hb2 (b);(try have hc2_t0:=fun o=>hcq2 (w.heap.size+1+1) o szq);(try have hf2_t0:=fun o=>hfq2 (w.heap.size+1+1) o szq);clear hcq2 hfq2))
  all_goals
   go_wp2;go_meet
   first
    |exact ⟨w2.heap.size,rfl,rfl,by omega,Box.new _ _ _,bxq,by (repeat (first|exact boxS1 _ _ _ _|refine Box.old ?_|refine Box.later ?_ hb2|refine Box.drew ?_)),bcq⟩
    |exact ⟨w.heap.size+1+1,rfl,rfl,by omega,by (refine Box.set3 (x:=.int .i64 0) (y:=.int .i64 0) (z:=.int .i64 0) ?_;refine Box.later ?_ hb2;refine Box.drew ?_;exact boxS2 _ _ _ _ _),bxq,by (repeat (first|exact boxS1 _ _ _ _|refine Box.old ?_|refine Box.other ?_ (by omega)|refine Box.later ?_ hb2|refine Box.drew ?_)),bcq⟩
 case rest=>
  obtain ⟨p7,rfl,rfl,hp7,b7,b4,b5,hbel⟩:=hcut;have k7:=b7.cell;have l7:=b7.lt;have k4:=b4.cell;have l4:=b4.lt;have f4:=b4.free;have k5:=b5.cell;have l5:=b5.lt;have f5:=b5.free;have HBL:=kj hbel;clear b7 b4 b5 hbel cV
  go_upto_region 5 with fail
  go_region_with ((go_at_call 103;(with_reducible refine (Cf.out _ ?_ ?_).mono ?_);(· exact HV.out.later (bt HBL.out bcq));(· exact HT.out.later (bt HBL.out bcq));rintro e3 w3 ⟨rfl,hb3⟩;obtain ⟨_,_,_⟩:=bcs hb3 (p7);obtain ⟨_,_,_⟩:=bcs hb3 (w.heap.size);obtain ⟨_,_,_⟩:=bcs hb3 (w.heap.size+1)))
  all_goals
   go_wp2;have hbel:=HBL.out;refine bodyPost_ret (v:=.tuple #[.agg #[.int .i64 y.off,.int .i64 y.save,.string y.abbr],.agg #[.int .i64 0,.int .i64 0,.int .i64 0],.bool false]) ?_ rfl ⟨rfl,?_⟩
   ·simp only [results,results98];go_simp
   ·exact bcq
set_option maxHeartbeats 3200000 in
set_option maxRecDepth 100000 in
theorem atS {w:World} {b g:Nat} {l:List RuleV} {e:EraV} {r:Value} (hv:View w b l e r g) (_he:e.Fit) (ht:Tab w) (t:Int) (hk:e.kind=2) (_hn:l.length≤100000) (o:OccV) (hlast:lastP l e t=some o):
 Calls prog 98 #[.pointer (some ⟨b,0,none⟩),.int .i64 t] w fun x w'=>x=.returned (.tuple #[.agg (stateV l e t).cells.toArray,.agg #[.int .i64 o.rule,.int .i64 o.year,.int .i64 o.nom],.bool true])∧Below w.heap.size w w':=by
 obtain ⟨y,hy⟩:∃ y,y=stateV l e t:=⟨_,rfl⟩;have hA:=last_all hlast;obtain ⟨i,x,hoi,hil,hxi,hxn,_⟩:=rule_of hA;have hyx:y=valX e x:=by
  rw [hy];unfold stateV;rw [hlast];show valAt l e o.rule=_;rw [hoi,val_rule hxi];unfold valX;rw [if_pos hxn]
 have hvv:∀ (j:Nat) (u:Value),y.cells[j]? =some u→w.cell? ⟨g,i*3+j,none⟩=some u:=fun j u hu=>hv.vals i x hxi j u (by rw [← hyx];exact hu);have lg:=hv.lt;have cl:=fun W (h:Holds W r l)=>ChW.Last h e.rules e.off t;unfold lastP at hlast;rw [hlast] at cl;unfold optV at cl;simp only at cl;rw [← hy];have HT:=kj ht;have HV:=kj hv;have bV:=hv.box;unfold viewC at bV;rw [hk] at bV;have cV:=bV.cell;have lV:=bV.lt;obtain ⟨rp,rc,rfl⟩:=hv.rules.form;obtain ⟨orl,oyr,onm⟩:=o;simp only at hoi;subst hoi;unfold OccV.cells at cl;have Cl:=kj cl;have Hvv:=kj hvv;clear cl hy hyx hvv hlast hv ht bV hA hxi hxn;generalize l.length=n at *;have hS:∀ u:World,Below w.heap.size w u→∀ o,u.cell? ⟨b,o,none⟩=(#[.int .i64 e.off,.int .i64 2,.int .i64 e.save,.string e.rules,.string e.format,.bool e.u.has,.int .i64 e.u.year,.int .i64 e.u.month,.int .i64 e.u.kind,.int .i64 e.u.week,.int .i64 e.u.day,.int .i64 e.u.sec,.int .i64 e.u.base,.slice rp n rc,.slice (some ⟨g,0,none⟩) n n]:Array Value)[o]? :=fun u hu o=>(hu.cell (p:=⟨b,o,none⟩) lV).trans (cV o);have HS:=kj hS;clear hS;go_enter func98,ntmps98
 go_upto_region 3 with fail
 go_cut [7,8] from 23 to 41 (fun s7 s8 wx=>∃ p7:Nat,s7=.pointer (some ⟨p7,0,none⟩)∧s8=.bool true∧w.heap.size+1<p7∧Box wx p7 #[.int .i64 (i:Int),.int .i64 oyr,.int .i64 onm] 156∧Box wx w.heap.size #[.int .i64 0,.int .i64 0,.string ⟨#[]⟩] 30∧Box wx (w.heap.size+1) #[.int .i64 0,.int .i64 0,.int .i64 0] 156∧Below w.heap.size w wx)
 case first=>
  go_region_held3 (fun w'=>∀ o,w'.cell? ⟨b,o,none⟩=(#[.int .i64 e.off,.int .i64 2,.int .i64 e.save,.string e.rules,.string e.format,.bool e.u.has,.int .i64 e.u.year,.int .i64 e.u.month,.int .i64 e.u.kind,.int .i64 e.u.week,.int .i64 e.u.day,.int .i64 e.u.sec,.int .i64 e.u.base,.slice rp n rc,.slice (some ⟨g,0,none⟩) n n]:Array Value)[o]?) ((refine HS.out _ ?_;exact bcq)) (first|(go_at_call 159;(with_reducible refine (Cl.out _ ?_).mono ?_);(· exact HV.out.rules.later bcq);rintro e2 w2 ⟨rfl,hb2⟩;obtain ⟨hcq2,hfq2⟩:=bcell hb2;obtain ⟨_,_,_⟩:=bcs hb2 (w.heap.size);obtain ⟨_,_,_⟩:=bcs hb2 (w.heap.size+1);obtain ⟨_,_,_⟩:=bcs hb2 (b);(try have hc2_t0:=fun o=>hcq2 (w.heap.size+1+1) o szq);(try have hf2_t0:=fun o=>hfq2 (w.heap.size+1+1) o szq);clear hcq2 hfq2))
  all_goals
   go_wp2;go_meet
   first
    |exact ⟨w2.heap.size,rfl,rfl,by omega,Box.new _ _ _,bxq,by (repeat (first|exact boxS1 _ _ _ _|refine Box.old ?_|refine Box.later ?_ hb2|refine Box.drew ?_)),bcq⟩
    |exact ⟨w.heap.size+1+1,rfl,rfl,by omega,by (refine Box.set3 (x:=.int .i64 0) (y:=.int .i64 0) (z:=.int .i64 0) ?_;refine Box.later ?_ hb2;refine Box.drew ?_;exact boxS2 _ _ _ _ _),bxq,by (repeat (first|exact boxS1 _ _ _ _|refine Box.old ?_|refine Box.other ?_ (by omega)|refine Box.later ?_ hb2|refine Box.drew ?_)),bcq⟩
 case rest=>
  obtain ⟨p7,rfl,rfl,hp7,b7,b4,b5,hbel⟩:=hcut;have k7:=b7.cell;have l7:=b7.lt;have k4:=b4.cell;have l4:=b4.lt;have f4:=b4.free;have k5:=b5.cell;have l5:=b5.lt;have f5:=b5.free;have HBL:=kj hbel;clear b7 b4 b5 hbel cV;have y0:=(HBL.out.cell (p:=⟨g,i*3+0,none⟩) lg).trans (Hvv.out 0 _ rfl);have y1:=(HBL.out.cell (p:=⟨g,i*3+1,none⟩) lg).trans (Hvv.out 1 _ rfl);have y2:=(HBL.out.cell (p:=⟨g,i*3+2,none⟩) lg).trans (Hvv.out 2 _ rfl);simp only [Nat.add_zero] at y0;have hgc:g<wc.heap.size:=Nat.lt_of_lt_of_le lg HBL.out.size;have hbc:b<wc.heap.size:=Nat.lt_of_lt_of_le lV HBL.out.size;have cb:=HS.out wc HBL.out
  go_upto_region 6 with fail
  go_region
  go_wp2;have hbel:=HBL.out;refine bodyPost_ret (v:=.tuple #[.agg #[.int .i64 y.off,.int .i64 y.save,.string y.abbr],.agg #[.int .i64 (i:Int),.int .i64 oyr,.int .i64 onm],.bool true]) ?_ rfl ⟨rfl,?_⟩
  ·simp only [results,results98];go_simp
  ·exact bcq
end Frc
end
end Go.Proofs.YtgmfojgnjdpofaaGreatDoor
