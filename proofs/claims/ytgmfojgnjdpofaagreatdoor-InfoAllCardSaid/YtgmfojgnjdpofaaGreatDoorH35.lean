import Derived.Test.YtgmfojgnjdpofaaGreatDoorH33
import Derived.Test.YtgmfojgnjdpofaaGreatDoorH7
import Derived.Deep.RegionHeld3
import Derived.Test.YtgmfojgnjdpofaaGreatDoorH34
import Derived.Test.YtgmfojgnjdpofaaGreatDoorH2
import Derived.Test.YtgmfojgnjdpofaaGreatDoorH15
import Derived.Test.YtgmfojgnjdpofaaGreatDoorH30
namespace Go.Proofs.YtgmfojgnjdpofaaGreatDoor
open Go.Proofs.Tryz
section
open Go.RowKit NB Nxt
def Sta (w:World):Prop:=Box w 0 #[.int .i64 (-1),.int .i64 0,.int .i64 (-2192387558400)] 156
theorem Sta.later {w w':World} (h:Sta w) (hb:Below w.heap.size w w'):Sta w':=Box.later h hb
namespace Frc
theorem inst_all {l:List RuleV} {e:EraV} {o:OccV} (hm:Chn.may e.off=true) (h:Occ.All l e.rules l.length o):(Chn.instE l e.rules e.off o).1=Chn.inst l e.rules e.off o:=by rw [Chn.instE_all hm h]
theorem nextF_all {l:List RuleV} {e:EraV} {v:ValV} {fr o:OccV} (hn:e.rules≠⟨#[]⟩) (h:Occ.nextO (othV l e v) e.rules fr=some o):Occ.All l e.rules l.length o:=by
 have hb:=Occ.best_next (othV l e v) e.rules fr;rw [h,oth_len] at hb;exact ((all_oth hn).1 hb.1).1
theorem rules_ne {e:EraV} (hR:Er.rightB e=true) (hk:e.kind=2):e.rules≠⟨#[]⟩:=by
 intro h;have hne:¬Nam.nameE ⟨#[]⟩=0:=by decide +kernel
 unfold Er.rightB at hR;rw [h,hk] at hR;simp [hne] at hR
set_option maxHeartbeats 2000000 in
set_option maxRecDepth 100000 in
theorem next0 {w:World} {r:Value} {l:List RuleV} (hr:Holds w r l) (e:EraV) (he:e.Fit) (t:Int) (ht:Tab w) (h:¬(Er.rightB e=true∧e.kind=2)):
 Calls prog 54 #[r,.agg e.cells.toArray,.int .i64 t] w fun x w'=>x=.returned (.tuple #[.int .i64 0,.bool false])∧Below w.heap.size w w':=by
 have cr:=fun W (h:Tab W)=>Er.Right e he W h;have HT:=kj ht;obtain ⟨rp,rc,rfl⟩:=hr.form;cases hR:Er.rightB e
 ·rw [hR] at cr;unfold EraV.cells at *;have Cr:=kj cr;clear cr hr ht h;go_enter func54,ntmps54
  go_wp2_with (go_at_call 96;(with_reducible refine (Cr.out _ ?_).mono ?_);(· exact HT.out.later bcq);rintro e w1 ⟨rfl,hb1⟩;obtain ⟨hc1_0,hf1_0,hz1_0⟩:=bcs hb1 (w.heap.size))
  go_ret2;exact ⟨rfl,bcq⟩
 ·have hk:¬e.kind=2:=fun hk=>h ⟨hR,hk⟩;rw [hR] at cr;unfold EraV.cells at *;have Cr:=kj cr;clear cr hr ht h;go_enter func54,ntmps54
  go_wp2_with (go_at_call 96;(with_reducible refine (Cr.out _ ?_).mono ?_);(· exact HT.out.later bcq);rintro e w1 ⟨rfl,hb1⟩;obtain ⟨hc1_0,hf1_0,hz1_0⟩:=bcs hb1 (w.heap.size))
  go_ret2;exact ⟨rfl,bcq⟩
set_option maxHeartbeats 2000000 in
set_option maxRecDepth 100000 in
theorem next1 {w:World} {r:Value} {l:List RuleV} (hr:Holds w r l) (e:EraV) (he:e.Fit) (t:Int) (ht:Tab w) (hst:Sta w) (hs:∀ x∈l,x.letter.size≤1000000) (hn:l.length≤100000) (hR:Er.rightB e=true) (hk:e.kind=2):
 Calls prog 54 #[r,.agg e.cells.toArray,.int .i64 t] w fun x w'=>x=.returned (.tuple #[.int .i64 (tell l e (nextF l e t)).1,.bool (tell l e (nextF l e t)).2])∧Below w.heap.size w w':=by
 have hne:=rules_ne hR hk;have hm:Chn.may e.off=true:=Chn.may_iff.2 (Unt.right_spec hR).1;have cr:=fun W (h:Tab W)=>Er.Right e he W h;rw [hR] at cr;have co:=fun W (h:Holds W r l) (ht:Tab W)=>of1 e he h ht hs hn;have ca:=fun W b g (h:View W b l e r g) (h':Tab W)=>atW h he h' t hn;have cq:=fun W b g (h:View W b l e r g) v=>others h hn v;unfold atR at ca;rw [if_pos hk] at ca;obtain ⟨v,hv⟩:∃ v,v=stateV l e t:=⟨_,rfl⟩;rw [← hv] at ca;obtain ⟨fr,hfr⟩:∃ fr,fr=(lastP l e t).getD startO:=⟨_,rfl⟩;obtain ⟨N,hN⟩:∃ N,N=nextF l e t:=⟨_,rfl⟩;have hNx:N=Occ.nextO (othX l e v) e.rules fr:=by
  rw [hN,next_othX hne,hv,hfr];rfl
 have cx:=fun W u (h:Holds W u (othX l e v))=>NxH.Next h e.rules fr;rw [← hNx] at cx;rw [← hN];have hall:∀ o,N=some o→Occ.All l e.rules l.length o:=fun o ho=>nextF_all hne (v:=v) (fr:=fr) (by rw [← next_othX hne, ←hNx];exact ho);have ci0:=fun W b g (h:View W b l e r g) o=>instant0 h o;have ci1:=fun W b g (h:View W b l e r g) o (ho:N=some o)=>by have:=instant1 h o;rw [inst_all hm (hall o ho)] at this;exact this
 have HH:=kj hr;have HT:=kj ht;have HS:=kj hst;have HFr:=kj hfr;unfold EraV.cells ValV.cells OccV.cells at *;simp only [hk] at cr co;have Cr:=kj cr;have Co:=kj co;have Ca:=kj ca;have Cq:=kj cq;have Cx:=kj cx;have Ci0:=kj ci0;have Ci1:=kj ci1;obtain ⟨rp,rc,rfl⟩:=hr.form;clear cr co ca cq cx ci0 ci1 hr ht hst hs hv hN hNx hall hfr hne hm;generalize hnl:l.length=n at *;clear hnl;rw [hk];go_enter func54,ntmps54
 go_upto_region 4 with (first
  |(go_at_call 96;(with_reducible refine (Cr.out _ ?_).mono ?_);(· exact HT.out.later bcq);rintro e w1 ⟨rfl,hb1⟩;obtain ⟨_,_,_⟩:=bcs hb1 (w.heap.size))
  |(go_at_call 97;(with_reducible refine (Co.out _ ?_ ?_).mono ?_);(· exact HH.out.later bcq);(· exact HT.out.later bcq);rintro z w2 ⟨b,g,rfl,hvw,hb2⟩;obtain ⟨hc2_0,hf2_0,hz2_0⟩:=bcs hb2 (w.heap.size)))
 have b4:Box w2 w.heap.size #[.int .i64 e.off,.int .i64 2,.int .i64 e.save,.string e.rules,.string e.format,.bool e.u.has,.int .i64 e.u.year,.int .i64 e.u.month,.int .i64 e.u.kind,.int .i64 e.u.week,.int .i64 e.u.day,.int .i64 e.u.sec,.int .i64 e.u.base] 53:=bxq;have hbel:Below w.heap.size w w2:=bcq;have hsta:Sta w2:=HS.out.later hbel;have htab:Tab w2:=HT.out.later hbel;have HVw:=kj hvw;have HBL:=kj hbel;have HB4:=kj b4;have HTab:=kj htab;have gS:=hsta.cell;have lS:=hsta.lt;have k4:=b4.cell;have l4:=b4.lt;clear hvw hbel htab b4 hb2 hc2_0 hf2_0 hz2_0 hsta;cases hlp:lastP l e t
 case none=>
  have ca':∀ W b g,View W b l e (.slice rp n rc) g→Tab W→Calls prog 98 #[.pointer (some ⟨b,0,none⟩),.int .i64 t] W fun x w'=>x=.returned (.tuple #[.agg #[.int .i64 v.off,.int .i64 v.save,.string v.abbr],.agg #[.int .i64 0,.int .i64 0,.int .i64 0],.bool false])∧Below W.heap.size W w':=fun W b g h h'=>by have:=Ca.out W b g h h';rw [hlp] at this;exact this
  have hfr':fr=startO:=by rw [HFr.out,hlp];rfl
  subst hfr';unfold startO at *;simp only at *;have Ca':=kj ca';clear ca' hlp Ca HFr
  go_upto_region 7 with (go_at_call 98;(with_reducible refine (Ca'.out _ _ _ HVw.out ?_).mono ?_);(· exact HTab.out);rintro z w3 ⟨rfl,hb3⟩;obtain ⟨hc3_0,hf3_0,hz3_0⟩:=bcs hb3 (w.heap.size);obtain ⟨hc3_1,hf3_1,hz3_1⟩:=bcs hb3 (0))
  have b9:Box ((w3.alloc (.cells #[.int .i64 v.off,.int .i64 v.save,.string v.abbr] 30)).alloc (.cells #[.int .i64 (-1),.int .i64 0,.int .i64 (-2192387558400)] 156)) w3.heap.size #[.int .i64 v.off,.int .i64 v.save,.string v.abbr] 30:=Box.old (Box.new _ _ _);have b10:Box ((w3.alloc (.cells #[.int .i64 v.off,.int .i64 v.save,.string v.abbr] 30)).alloc (.cells #[.int .i64 (-1),.int .i64 0,.int .i64 (-2192387558400)] 156)) (w3.heap.size+1) #[.int .i64 (-1),.int .i64 0,.int .i64 (-2192387558400)] 156:=boxS1 _ _ _ _;have b4:Box ((w3.alloc (.cells #[.int .i64 v.off,.int .i64 v.save,.string v.abbr] 30)).alloc (.cells #[.int .i64 (-1),.int .i64 0,.int .i64 (-2192387558400)] 156)) w.heap.size #[.int .i64 e.off,.int .i64 2,.int .i64 e.save,.string e.rules,.string e.format,.bool e.u.has,.int .i64 e.u.year,.int .i64 e.u.month,.int .i64 e.u.kind,.int .i64 e.u.week,.int .i64 e.u.day,.int .i64 e.u.sec,.int .i64 e.u.base] 53:=Box.old (Box.old (HB4.out.later hb3));have hX:Below w2.heap.size w2 ((w3.alloc (.cells #[.int .i64 v.off,.int .i64 v.save,.string v.abbr] 30)).alloc (.cells #[.int .i64 (-1),.int .i64 0,.int .i64 (-2192387558400)] 156)):=bcq;generalize ((w3.alloc (.cells #[.int .i64 v.off,.int .i64 v.save,.string v.abbr] 30)).alloc (.cells #[.int .i64 (-1),.int .i64 0,.int .i64 (-2192387558400)] 156))=X at *;obtain ⟨p9,hp9⟩:∃ p,p=w3.heap.size:=⟨_,rfl⟩;rw [← hp9] at b9 b10 ⊢;obtain ⟨p10,hp10⟩:∃ p,p=p9+1:=⟨_,rfl⟩;rw [← hp10] at b10 ⊢;have hVX:=HVw.out.later hX;have hWX:=HBL.out.trans (hX.mono HBL.out.size);have hSF:∀ u:World,Below X.heap.size X u→(∀ o,u.cell? ⟨w.heap.size,o,none⟩=(#[.int .i64 e.off,.int .i64 2,.int .i64 e.save,.string e.rules,.string e.format,.bool e.u.has,.int .i64 e.u.year,.int .i64 e.u.month,.int .i64 e.u.kind,.int .i64 e.u.week,.int .i64 e.u.day,.int .i64 e.u.sec,.int .i64 e.u.base]:Array Value)[o]?)∧(∀ o,u.cell? ⟨p9,o,none⟩=(#[.int .i64 v.off,.int .i64 v.save,.string v.abbr]:Array Value)[o]?)∧(∀ o,u.cell? ⟨p10,o,none⟩=(#[.int .i64 (-1),.int .i64 0,.int .i64 (-2192387558400)]:Array Value)[o]?):=fun u hu=>⟨(b4.later hu).cell,(b9.later hu).cell,(b10.later hu).cell⟩;have HVX:=kj hVX;have HWX:=kj hWX;have HSF:=kj hSF;clear b9 b10 b4 hX hp9 hp10 hVX hWX hSF hb3 hc3_0 hf3_0 hc3_1 hf3_1 hz3_0 hz3_1 gS lS k4 l4;rcases N with _|o
  case' none=>
   have cx:∀ W u,Holds W u (othX l e v)→Calls prog 100 #[u,.string e.rules,.agg #[.int .i64 (-1),.int .i64 0,.int .i64 (-2192387558400)]] W fun z w'=>z=.returned (.tuple #[.agg #[.int .i64 0,.int .i64 0,.int .i64 0],.bool false])∧Below W.heap.size W w':=fun W u h=>Cx.out W u h;have ci:∀ W b g,View W b l e (.slice rp n rc) g→Calls prog 99 #[.pointer (some ⟨b,0,none⟩),.agg #[.int .i64 0,.int .i64 0,.int .i64 0],.bool false] W fun z w'=>z=.returned (.tuple #[.int .i64 0,.bool false])∧Below W.heap.size W w':=fun W b g h=>Ci0.out W b g h ⟨0,0,0⟩
  case' some=>
   have cx:∀ W u,Holds W u (othX l e v)→Calls prog 100 #[u,.string e.rules,.agg #[.int .i64 (-1),.int .i64 0,.int .i64 (-2192387558400)]] W fun z w'=>z=.returned (.tuple #[.agg #[.int .i64 o.rule,.int .i64 o.year,.int .i64 o.nom],.bool true])∧Below W.heap.size W w':=fun W u h=>Cx.out W u h;obtain ⟨io,hio⟩:∃ io,io=Chn.inst l e.rules e.off o:=⟨_,rfl⟩;have ci:∀ W b g,View W b l e (.slice rp n rc) g→Calls prog 99 #[.pointer (some ⟨b,0,none⟩),.agg #[.int .i64 o.rule,.int .i64 o.year,.int .i64 o.nom],.bool true] W fun z w'=>z=.returned (.tuple #[.int .i64 io,.bool true])∧Below W.heap.size W w':=fun W b g h=>by rw [hio];exact Ci1.out W b g h o rfl
   have HIO:=kj hio;clear hio
  all_goals
   have CX:=kj cx;have CI:=kj ci;clear cx ci Cx Ci0 Ci1
   go_region_held3 (fun w'=>(∀ o,w'.cell? ⟨w.heap.size,o,none⟩=(#[.int .i64 e.off,.int .i64 2,.int .i64 e.save,.string e.rules,.string e.format,.bool e.u.has,.int .i64 e.u.year,.int .i64 e.u.month,.int .i64 e.u.kind,.int .i64 e.u.week,.int .i64 e.u.day,.int .i64 e.u.sec,.int .i64 e.u.base]:Array Value)[o]?)∧(∀ o,w'.cell? ⟨p9,o,none⟩=(#[.int .i64 v.off,.int .i64 v.save,.string v.abbr]:Array Value)[o]?)∧(∀ o,w'.cell? ⟨p10,o,none⟩=(#[.int .i64 (-1),.int .i64 0,.int .i64 (-2192387558400)]:Array Value)[o]?)) ((refine HSF.out _ ?_;exact bcq)) (first
    |(go_at_call 101;(with_reducible refine (Cq.out _ _ _ (HVX.out.later ?_) v).mono ?_);(· exact bcq);rintro z w4 ⟨u4,rfl,hvo,hb4⟩)
    |(go_at_call 100;(with_reducible refine (CX.out _ _ ?_).mono ?_);(· exact hvo.later bcq);rintro z w5 ⟨rfl,hb5⟩)
    |(go_at_call 99;(with_reducible refine (CI.out _ _ _ (HVX.out.later ?_)).mono ?_);(· exact bcq);rintro z w6 ⟨rfl,hb6⟩))
   all_goals
    go_wp2;have hWX:=HWX.out;go_ret2
    first
     |exact ⟨rfl,bcq⟩
     |exact ⟨by rw [HIO.out];rfl,bcq⟩
 case some lo=>
  have ca':∀ W b g,View W b l e (.slice rp n rc) g→Tab W→Calls prog 98 #[.pointer (some ⟨b,0,none⟩),.int .i64 t] W fun x w'=>x=.returned (.tuple #[.agg #[.int .i64 v.off,.int .i64 v.save,.string v.abbr],.agg #[.int .i64 fr.rule,.int .i64 fr.year,.int .i64 fr.nom],.bool true])∧Below W.heap.size W w':=fun W b g h h'=>by have:=Ca.out W b g h h';have e:fr=lo:=(by rw [HFr.out,hlp];rfl);rw [hlp, ←e] at this;exact this
  have Ca':=kj ca';clear ca' hlp Ca HFr
  go_upto_region 7 with (go_at_call 98;(with_reducible refine (Ca'.out _ _ _ HVw.out ?_).mono ?_);(· exact HTab.out);rintro z w3 ⟨rfl,hb3⟩;obtain ⟨hc3_0,hf3_0,hz3_0⟩:=bcs hb3 (w.heap.size);obtain ⟨hc3_1,hf3_1,hz3_1⟩:=bcs hb3 (0))
  have b9:Box ((w3.alloc (.cells #[.int .i64 v.off,.int .i64 v.save,.string v.abbr] 30)).alloc (.cells #[.int .i64 fr.rule,.int .i64 fr.year,.int .i64 fr.nom] 156)) w3.heap.size #[.int .i64 v.off,.int .i64 v.save,.string v.abbr] 30:=Box.old (Box.new _ _ _);have b10:Box ((w3.alloc (.cells #[.int .i64 v.off,.int .i64 v.save,.string v.abbr] 30)).alloc (.cells #[.int .i64 fr.rule,.int .i64 fr.year,.int .i64 fr.nom] 156)) (w3.heap.size+1) #[.int .i64 fr.rule,.int .i64 fr.year,.int .i64 fr.nom] 156:=boxS1 _ _ _ _;have b4:Box ((w3.alloc (.cells #[.int .i64 v.off,.int .i64 v.save,.string v.abbr] 30)).alloc (.cells #[.int .i64 fr.rule,.int .i64 fr.year,.int .i64 fr.nom] 156)) w.heap.size #[.int .i64 e.off,.int .i64 2,.int .i64 e.save,.string e.rules,.string e.format,.bool e.u.has,.int .i64 e.u.year,.int .i64 e.u.month,.int .i64 e.u.kind,.int .i64 e.u.week,.int .i64 e.u.day,.int .i64 e.u.sec,.int .i64 e.u.base] 53:=Box.old (Box.old (HB4.out.later hb3));have hX:Below w2.heap.size w2 ((w3.alloc (.cells #[.int .i64 v.off,.int .i64 v.save,.string v.abbr] 30)).alloc (.cells #[.int .i64 fr.rule,.int .i64 fr.year,.int .i64 fr.nom] 156)):=bcq;generalize ((w3.alloc (.cells #[.int .i64 v.off,.int .i64 v.save,.string v.abbr] 30)).alloc (.cells #[.int .i64 fr.rule,.int .i64 fr.year,.int .i64 fr.nom] 156))=X at *;obtain ⟨p9,hp9⟩:∃ p,p=w3.heap.size:=⟨_,rfl⟩;rw [← hp9] at b9 b10 ⊢;obtain ⟨p10,hp10⟩:∃ p,p=p9+1:=⟨_,rfl⟩;rw [← hp10] at b10 ⊢;have hVX:=HVw.out.later hX;have hWX:=HBL.out.trans (hX.mono HBL.out.size);have hSF:∀ u:World,Below X.heap.size X u→(∀ o,u.cell? ⟨w.heap.size,o,none⟩=(#[.int .i64 e.off,.int .i64 2,.int .i64 e.save,.string e.rules,.string e.format,.bool e.u.has,.int .i64 e.u.year,.int .i64 e.u.month,.int .i64 e.u.kind,.int .i64 e.u.week,.int .i64 e.u.day,.int .i64 e.u.sec,.int .i64 e.u.base]:Array Value)[o]?)∧(∀ o,u.cell? ⟨p9,o,none⟩=(#[.int .i64 v.off,.int .i64 v.save,.string v.abbr]:Array Value)[o]?)∧(∀ o,u.cell? ⟨p10,o,none⟩=(#[.int .i64 fr.rule,.int .i64 fr.year,.int .i64 fr.nom]:Array Value)[o]?):=fun u hu=>⟨(b4.later hu).cell,(b9.later hu).cell,(b10.later hu).cell⟩;have HVX:=kj hVX;have HWX:=kj hWX;have HSF:=kj hSF;clear b9 b10 b4 hX hp9 hp10 hVX hWX hSF hb3 hc3_0 hf3_0 hc3_1 hf3_1 hz3_0 hz3_1 gS lS k4 l4;rcases N with _|o
  case' none=>
   have cx:∀ W u,Holds W u (othX l e v)→Calls prog 100 #[u,.string e.rules,.agg #[.int .i64 fr.rule,.int .i64 fr.year,.int .i64 fr.nom]] W fun z w'=>z=.returned (.tuple #[.agg #[.int .i64 0,.int .i64 0,.int .i64 0],.bool false])∧Below W.heap.size W w':=fun W u h=>Cx.out W u h;have ci:∀ W b g,View W b l e (.slice rp n rc) g→Calls prog 99 #[.pointer (some ⟨b,0,none⟩),.agg #[.int .i64 0,.int .i64 0,.int .i64 0],.bool false] W fun z w'=>z=.returned (.tuple #[.int .i64 0,.bool false])∧Below W.heap.size W w':=fun W b g h=>Ci0.out W b g h ⟨0,0,0⟩
  case' some=>
   have cx:∀ W u,Holds W u (othX l e v)→Calls prog 100 #[u,.string e.rules,.agg #[.int .i64 fr.rule,.int .i64 fr.year,.int .i64 fr.nom]] W fun z w'=>z=.returned (.tuple #[.agg #[.int .i64 o.rule,.int .i64 o.year,.int .i64 o.nom],.bool true])∧Below W.heap.size W w':=fun W u h=>Cx.out W u h;obtain ⟨io,hio⟩:∃ io,io=Chn.inst l e.rules e.off o:=⟨_,rfl⟩;have ci:∀ W b g,View W b l e (.slice rp n rc) g→Calls prog 99 #[.pointer (some ⟨b,0,none⟩),.agg #[.int .i64 o.rule,.int .i64 o.year,.int .i64 o.nom],.bool true] W fun z w'=>z=.returned (.tuple #[.int .i64 io,.bool true])∧Below W.heap.size W w':=fun W b g h=>by rw [hio];exact Ci1.out W b g h o rfl
   have HIO:=kj hio;clear hio
  all_goals
   have CX:=kj cx;have CI:=kj ci;clear cx ci Cx Ci0 Ci1
   go_region_held3 (fun w'=>(∀ o,w'.cell? ⟨w.heap.size,o,none⟩=(#[.int .i64 e.off,.int .i64 2,.int .i64 e.save,.string e.rules,.string e.format,.bool e.u.has,.int .i64 e.u.year,.int .i64 e.u.month,.int .i64 e.u.kind,.int .i64 e.u.week,.int .i64 e.u.day,.int .i64 e.u.sec,.int .i64 e.u.base]:Array Value)[o]?)∧(∀ o,w'.cell? ⟨p9,o,none⟩=(#[.int .i64 v.off,.int .i64 v.save,.string v.abbr]:Array Value)[o]?)∧(∀ o,w'.cell? ⟨p10,o,none⟩=(#[.int .i64 fr.rule,.int .i64 fr.year,.int .i64 fr.nom]:Array Value)[o]?)) ((refine HSF.out _ ?_;exact bcq)) (first
    |(go_at_call 101;(with_reducible refine (Cq.out _ _ _ (HVX.out.later ?_) v).mono ?_);(· exact bcq);rintro z w4 ⟨u4,rfl,hvo,hb4⟩)
    |(go_at_call 100;(with_reducible refine (CX.out _ _ ?_).mono ?_);(· exact hvo.later bcq);rintro z w5 ⟨rfl,hb5⟩)
    |(go_at_call 99;(with_reducible refine (CI.out _ _ _ (HVX.out.later ?_)).mono ?_);(· exact bcq);rintro z w6 ⟨rfl,hb6⟩))
   all_goals
    go_wp2;have hWX:=HWX.out;go_ret2
    first
     |exact ⟨rfl,bcq⟩
     |exact ⟨by rw [HIO.out];rfl,bcq⟩
theorem Next {w:World} {r:Value} {l:List RuleV} (hr:Holds w r l) (e:EraV) (he:e.Fit) (t:Int) (ht:Tab w) (hst:Sta w) (hs:∀ x∈l,x.letter.size≤1000000) (hn:l.length≤100000):
 Calls prog 54 #[r,.agg e.cells.toArray,.int .i64 t] w fun x w'=>x=.returned (.tuple #[.int .i64 (nextV l e t).1,.bool (nextV l e t).2])∧Below w.heap.size w w':=by
 unfold nextV
 by_cases h:Er.rightB e=true∧e.kind=2
 ·rw [if_pos h];exact next1 hr e he t ht hst hs hn h.1 h.2
 ·rw [if_neg h];exact next0 hr e he t ht h
end Frc
end
section
open Go.RowKit NB
namespace Chg
open Pt
set_option maxRecDepth 100000 in
set_option maxHeartbeats 3200000 in
theorem NextNot {w:World} {t:TabV} (ht:HoldsT w t) (ok:Ok t) (tb:Tab w) (zone s:Int) (hs:I64 s) (hb:(valV t zone s).2≠0):
 Calls prog 17 #[.agg #[t.rv,t.zv,t.lv],.int .i64 zone,.int .i64 s] w fun e w'=>e=.returned (.tuple #[.int .i64 0,.bool false])∧Below w.heap.size w w'∧w.heap.size<w'.heap.size:=by
 have cv:=fun W (h:HoldsT W t) (tb:Tab W)=>FromNot h ok tb zone s hs hb;have HTT:=kj ht;have HTB:=kj tb;obtain ⟨p,cap,e1⟩:=ht.r.form;obtain ⟨pz,capz,e3⟩:=ht.z.form;obtain ⟨pl,capl,e7⟩:=ht.l.form;obtain ⟨rv,zv,lv,rs,zs,ls⟩:=t;dsimp only at e1 e3 e7 cv HTT ⊢;subst e1 e3 e7;generalize rs.length=n at *;generalize zs.length=nz at *;generalize ls.length=nl at *;have CV:=kj cv;clear cv ht tb ok hb;go_enter func17,ntmps17
 go_upto_region 2 with (go_at_call 52;(with_reducible refine (CV.out _ ?_ ?_).mono ?_);(· exact HTT.out.later bcq);(· exact HTB.out.later bcq);rintro e w1 ⟨rfl,hb1⟩;obtain ⟨_,_,hz1_0⟩:=bcs hb1 (w.heap.size))
 go_loopw [2] (fun s2 wr=>wr=w1) (fun _ _=>0)
 case atStart=>rfl
 case round=>
  subst hrel;go_wp2;go_ret2;exact ⟨rfl,bcq,hz1_0⟩
set_option maxRecDepth 100000 in
set_option maxHeartbeats 6400000 in
theorem NextC {w:World} {t:TabV} (ht:HoldsT w t) (ok:Ok t) (tb:Tab w) (hst:Sta w) (hc:(Chk.check t.rs).2=0) (k:Nat) (s:Int) (hs:I64 s) {z:ZoneV} (hzz:zoneAt t (k:Int)=some z) (h0:lo≤s) (h1:s≤hi) {r:Int×Bool} (hr:NextR t.rs z.es (VV t.rs z.es s) s r):
 Calls prog 17 #[.agg #[t.rv,t.zv,t.lv],.int .i64 k,.int .i64 s] w fun e w'=>e=.returned (.tuple #[.int .i64 r.1,.bool r.2])∧Below w.heap.size w w'∧w.heap.size<w'.heap.size:=by
 have cfm:=fun W (h:HoldsT W t) (tb:Tab W)=>From h ok tb k s hs hzz h0 h1;have hzm:=(zone_mem hzz).2.2.2;have hg:=ok.good z hzm;have hfit:=(ht.zf z hzm).e.fit;have cer:=fun W (p:Nat) (pe:Option Addr) (cp:Nat) (hW:Walk W p t k (Zn.endsL t.rs z.es) (VV t.rs z.es s) pe cp) (h:HoldsT W t) (c:Int) (c0:lo≤c) (c1:c≤hi) (x:EraV) (hx:z.es[idx (Zn.endsL t.rs z.es) c]? =some x)=>EraC hW h ok hzz c c0 c1 hx;have cot:=fun W (p:Nat) (pe:Option Addr) (cp:Nat) (hW:Walk W p t k (Zn.endsL t.rs z.es) (VV t.rs z.es s) pe cp) (h:HoldsT W t) (tb:Tab W) (c:Int) (c0:lo≤c) (c1:c≤hi)=>OtherC hW h ok tb hzz c c0 c1;have cfn:=fun W (h:Holds W t.rv t.rs) (x:EraV) (hx:x.Fit) (c:Int) (tb:Tab W) (hst:Sta W)=>Frc.Next h x hx c tb hst ok.lets (by have:=ok.rn;omega);have hstep:=fun (c:Int) (c0:lo≤c) (c1:c≤hi)=>(stepN_spec hg hc c0 c1).2;have hera:=fun (c:Int)=>era_at hg c;have hnx:=fun (c:Int) (c0:lo≤c) (c1:c≤hi) (e:EraV) (hR:Er.rightB e=true) n (h:Frc.nextV t.rs e c=(n,true))=>(L33.nextB hc hR (t:=c) (by unfold lo at c0;omega) (by unfold hi at c1;omega) h);have hend:=fun (i:Nat) x (h:(Zn.endsL t.rs z.es)[i]? =some x)=>end_range hg.zone h;have HTT:=kj ht;have HTB:=kj tb;have HST:=kj hst;obtain ⟨p0,cap,e1⟩:=ht.r.form;obtain ⟨pz,capz,e3⟩:=ht.z.form;obtain ⟨pl,capl,e7⟩:=ht.l.form;have hhr:=ht.r;generalize VV t.rs z.es s=V at *;obtain ⟨R,B⟩:=r;dsimp only;have CFM:=kj cfm;have CER:=kj cer;have COT:=kj cot;have CFN:=kj cfn;have HSTEP:=kj hstep;have HERA:=kj hera;have HNX:=kj hnx;have HEND:=kj hend;have HR:=kj hr;have HFIT:=kj hfit;have HHR:=kj hhr;clear cfm cer cot cfn hstep hera hnx hend hr hfit hhr ok ht tb hst hg hc hzm hzz;obtain ⟨rv,zv,lv,rs,zs,ls⟩:=t;dsimp only at e1 e3 e7 ⊢;subst e1 e3 e7;generalize rs.length=n at *;generalize zs.length=nz at *;generalize ls.length=nl at *;go_enter func17,ntmps17
 go_upto_region 1 with fail
 obtain ⟨w1,hw1⟩:∃ V,V=w.alloc (.cells #[.slice p0 n cap,.slice pz nz capz,.slice pl nl capl] 26):=⟨_,rfl⟩;have b1:Box w1 w.heap.size #[.slice p0 n cap,.slice pz nz capz,.slice pl nl capl] 26:=by rw [hw1];exact Box.new _ _ _
 have hB1:Below w.heap.size w w1:=by rw [hw1];exact bcq
 rw [← hw1];clear hw1;have c1:=b1.cell
 go_upto_region 2 with (go_at_call 52;(with_reducible refine (CFM.out _ ?_ ?_).mono ?_);(· exact HTT.out.later hB1);(· exact HTB.out.later hB1);rintro e w2 ⟨p,pe,cp,rfl,hW,hb2⟩;have HW:=kj hW;clear hW)
 have HB2:=kj (hB1.trans (hb2.mono hB1.size));have HT2:=kj (b1.later hb2);clear hB1 hb2 b1 c1
 go_loopw [2] (fun s2 wr=>∃ c:Int,s2=.int .i64 c∧(lo≤c∧c≤hi)∧Hid (NextR rs z.es V c (R,B))∧Below w2.heap.size w2 wr) (fun s2 _=>(hi-intOf s2).toNat)
 case atStart=>exact ⟨s,rfl,⟨h0,h1⟩,HR.out,Below.refl _ _⟩
 case round=>
  obtain ⟨c,rfl,⟨c0,c1⟩,HC,hbr⟩:=hrel;obtain ⟨x,hx,hxR,_⟩:=HERA.out c;have hxF:=HFIT.out x (List.mem_of_getElem? hx);have hbw:Below w.heap.size w wr:=HB2.out.trans (hbr.mono HB2.out.size);have HWr:=kj (HW.out.later hbr);have hTr:=kj (HTT.out.later hbw);have hBr:=kj (HTB.out.later hbw);have hSr:=kj (HST.out.later hbw);have hHr:=kj (HHR.out.later hbw);have cT:=(HT2.out.later hbr).cell;have kT:=(HT2.out.later hbr).lt;have cP:=HWr.out.box.cell;have kP:=HWr.out.box.lt;have ce:=fun W (h:Below wr.heap.size wr W)=>CER.out W p pe cp (HWr.out.later h) (hTr.out.later h) c c0 c1 x hx;have cn:=fun W (h:Below wr.heap.size wr W)=>CFN.out W (hHr.out.later h) x hxF c (hBr.out.later h) (hSr.out.later h);obtain ⟨N,hN⟩:∃ N,Frc.nextV rs x c=N:=⟨_,rfl⟩;obtain ⟨nn,nb⟩:=N;rw [hN] at cn;obtain ⟨I,hI⟩:∃ I,I=idx (Zn.endsL rs z.es) c:=⟨_,rfl⟩;obtain ⟨LN,hLN⟩:∃ N,N=(Zn.endsL rs z.es).length:=⟨_,rfl⟩;obtain ⟨C,hC⟩:∃ C,candN rs z.es c=C:=⟨_,rfl⟩;obtain ⟨cn1,cn2⟩:=C;unfold EraV.cells at ce cn
  try dsimp only at ce cn cP
  rw [← hI] at ce;rw [← hLN] at cP;have CEE:=kj ce;have CNN:=kj cn;have HX:=kj hx;have HNN:=kj hN;have HI:=kj hI;have HLN:=kj hLN;have HCN:=kj hC;clear ce cn hx hN hI hLN hC hbw
  go_upto_region 5 with (first
   |(go_at_call 53;(with_reducible refine (CEE.out _ ?_).mono ?_);(· exact bcq);rintro e w3 ⟨rfl,hb3⟩;obtain ⟨_,_,_⟩:=bcs hb3 (w.heap.size);obtain ⟨_,_,_⟩:=bcs hb3 (p))
   |(go_at_call 54;(with_reducible refine (CNN.out _ ?_).mono ?_);(· exact bcq);rintro e w4 ⟨rfl,hb4⟩;obtain ⟨_,_,_⟩:=bcs hb4 (w.heap.size);obtain ⟨_,_,_⟩:=bcs hb4 (p)))
  have hb4':Below wr.heap.size wr w4:=bcq
  go_cut [57] from 36 to 56 (fun s57 wx=>((s57=.bool true∧I<LN∧∃ tt,(Zn.endsL rs z.es)[I]? =some tt∧cn1=tt∧cn2=true)∨(s57=.bool false∧cn1=nn∧cn2=nb))∧wx=w4)
  case first=>
   obtain ⟨pp,cc,epp,hpe⟩:=HWr.out.ends.pkI;cases epp
   by_cases hIN:I<LN
   ·obtain ⟨tt,htt⟩:∃ tt,(Zn.endsL rs z.es)[I]? =some tt:=⟨_,List.getElem?_eq_getElem (by rw [← HLN.out];exact hIN)⟩;obtain ⟨b,off,rfl,hb,c9⟩:=hpe I tt htt;replace c9:=(hb4'.cell (p:=⟨b,off+I,none⟩) hb).trans c9;have q1:(I:Int)<(LN:Int):=by omega
    rw [HI.out] at htt;have HTT1:=kj htt;clear htt hpe;cases nb
    ·have hcd:=cand_end HX.out HTT1.out (.inl (by rw [HNN.out]));rw [HCN.out] at hcd;have HCD:=kj (Prod.mk.inj hcd);clear hcd;go_wp2;go_meet;exact ⟨.inl ⟨rfl,hIN,tt,by rw [HI.out];exact HTT1.out,HCD.out.1,HCD.out.2⟩,rfl⟩
    ·by_cases hlt:tt<nn
     ·have hcd:=cand_end HX.out HTT1.out (.inr (by rw [HNN.out];exact hlt));rw [HCN.out] at hcd;have HCD:=kj (Prod.mk.inj hcd);clear hcd;go_wp2;go_meet;exact ⟨.inl ⟨rfl,hIN,tt,by rw [HI.out];exact HTT1.out,HCD.out.1,HCD.out.2⟩,rfl⟩
     ·have hcd:=cand_in HX.out HTT1.out (by rw [HNN.out];rintro (h|h);cases h;exact hlt h);rw [HCN.out,HNN.out] at hcd;have HCD:=kj (Prod.mk.inj hcd);clear hcd;go_wp2;go_meet;exact ⟨.inr ⟨rfl,HCD.out.1,HCD.out.2⟩,rfl⟩
   ·have htt:(Zn.endsL rs z.es)[idx (Zn.endsL rs z.es) c]? =none:=List.getElem?_eq_none (by rw [← HI.out, ←HLN.out];omega);have hcd:=cand_none HX.out htt;rw [HCN.out,HNN.out] at hcd;have HCD:=kj (Prod.mk.inj hcd);clear hcd;have q1:¬(I:Int)<(LN:Int):=by omega
    clear htt hpe;go_wp2;go_meet;exact ⟨.inr ⟨rfl,HCD.out.1,HCD.out.2⟩,rfl⟩
  case rest=>
   obtain ⟨hcut,hwx⟩:=hcut;subst hwx;rcases hcut with ⟨rfl,hIN,tt,htt,rfl,rfl⟩|⟨rfl,rfl,rfl⟩
   ·obtain ⟨pp,cc,epp,hpe⟩:=HWr.out.ends.pkI;cases epp;obtain ⟨b,off,rfl,hb,c9⟩:=hpe I cn1 htt;replace c9:=(hb4'.cell (p:=⟨b,off+I,none⟩) hb).trans c9;clear htt hpe
    go_upto_region 7 with fail
    have hstop:true=false∨hi<cn1∨cn1≤c→R=0∧B=false:=fun h=>by
     have:=next_stop HC.out (by unfold stepN;rw [HCN.out];exact if_pos h);exact Prod.mk.inj this
    have HBr:=kj (HB2.out.trans ((bt hbr hb4').mono HB2.out.size))
    by_cases hh:hi<cn1
    ·obtain ⟨rfl,rfl⟩:=hstop (.inr (.inl hh));unfold hi at hh;clear hstop;go_wp2;go_ret2;exact ⟨rfl,HBr.out,(HT2.out.later (bt hbr hb4')).lt⟩
    by_cases hle:cn1≤c
    ·obtain ⟨rfl,rfl⟩:=hstop (.inr (.inr hle));unfold hi at hh;clear hstop;go_wp2;go_ret2;exact ⟨rfl,HBr.out,(HT2.out.later (bt hbr hb4')).lt⟩
    clear hstop;have hs1:stepN rs z.es c=some cn1:=by
     unfold stepN;rw [HCN.out];exact if_neg (by rintro (h|h|h);cases h;exact hh h;exact hle h)
    have HS1:=kj hs1;have ct:=fun W (h:Below wr.heap.size wr W)=>COT.out W p _ _ (HWr.out.later h) (hTr.out.later h) (hBr.out.later h) cn1 (by omega) (by omega);have HLE:=kj (show c<cn1∧cn1≤hi by omega);unfold hi at hh
    by_cases hv:VV rs z.es cn1=V
    ·rw [decide_eq_true hv] at ct;have HG:=kj (next_go HC.out HS1.out hv);have CT:=kj ct;clear ct hs1 hv
     go_wp2_with (go_at_call 55;(with_reducible refine (CT.out _ hb4').mono ?_);rintro e w5 ⟨rfl,hb5⟩)
     go_roundw
     case rel=>exact ⟨cn1,rfl,⟨by have:=HLE.out;omega,HLE.out.2⟩,HG.out,bt (bt hbr hb4') hb5⟩
     case measure=>have:=HLE.out;simp only [intOf];omega
    ·rw [decide_eq_false hv] at ct;obtain ⟨rfl,rfl⟩:=Prod.mk.inj (next_hit HC.out HS1.out hv);have CT:=kj ct;clear ct hs1 hv
     go_wp2_with (go_at_call 55;(with_reducible refine (CT.out _ hb4').mono ?_);rintro e w5 ⟨rfl,hb5⟩)
     go_ret2;exact ⟨rfl,bt HBr.out hb5,(HT2.out.later (bt (bt hbr hb4') hb5)).lt⟩
   ·go_upto_region 7 with fail
    have hstop:cn2=false∨hi<cn1∨cn1≤c→R=0∧B=false:=fun h=>by
     have:=next_stop HC.out (by unfold stepN;rw [HCN.out];exact if_pos h);exact Prod.mk.inj this
    have HBr:=kj (HB2.out.trans ((bt hbr hb4').mono HB2.out.size));cases cn2
    ·obtain ⟨rfl,rfl⟩:=hstop (.inl rfl);clear hstop;go_wp2;go_ret2;exact ⟨rfl,HBr.out,(HT2.out.later (bt hbr hb4')).lt⟩
    by_cases hh:hi<cn1
    ·obtain ⟨rfl,rfl⟩:=hstop (.inr (.inl hh));unfold hi at hh;clear hstop;go_wp2;go_ret2;exact ⟨rfl,HBr.out,(HT2.out.later (bt hbr hb4')).lt⟩
    by_cases hle:cn1≤c
    ·obtain ⟨rfl,rfl⟩:=hstop (.inr (.inr hle));unfold hi at hh;clear hstop;go_wp2;go_ret2;exact ⟨rfl,HBr.out,(HT2.out.later (bt hbr hb4')).lt⟩
    clear hstop;have hs1:stepN rs z.es c=some cn1:=by
     unfold stepN;rw [HCN.out];exact if_neg (by rintro (h|h|h);cases h;exact hh h;exact hle h)
    have HS1:=kj hs1;have ct:=fun W (h:Below wr.heap.size wr W)=>COT.out W p _ _ (HWr.out.later h) (hTr.out.later h) (hBr.out.later h) cn1 (by omega) (by omega);have HLE:=kj (show c<cn1∧cn1≤hi by omega);unfold hi at hh
    by_cases hv:VV rs z.es cn1=V
    ·rw [decide_eq_true hv] at ct;have HG:=kj (next_go HC.out HS1.out hv);have CT:=kj ct;clear ct hs1 hv
     go_wp2_with (go_at_call 55;(with_reducible refine (CT.out _ hb4').mono ?_);rintro e w5 ⟨rfl,hb5⟩)
     go_roundw
     case rel=>exact ⟨cn1,rfl,⟨by have:=HLE.out;omega,HLE.out.2⟩,HG.out,bt (bt hbr hb4') hb5⟩
     case measure=>have:=HLE.out;simp only [intOf];omega
    ·rw [decide_eq_false hv] at ct;obtain ⟨rfl,rfl⟩:=Prod.mk.inj (next_hit HC.out HS1.out hv);have CT:=kj ct;clear ct hs1 hv
     go_wp2_with (go_at_call 55;(with_reducible refine (CT.out _ hb4').mono ?_);rintro e w5 ⟨rfl,hb5⟩)
     go_ret2;exact ⟨rfl,bt HBr.out hb5,(HT2.out.later (bt (bt hbr hb4') hb5)).lt⟩
end Chg
end
section
open Go.RowKit NB
namespace Chg
open Pt
def NextT (t:TabV) (zone s:Int) (r:Int×Bool):Prop:=((valV t zone s).2≠0∧r=(0,false))∨∃ z,zoneAt t zone=some z∧(lo≤s∧s≤hi)∧NextR t.rs z.es (VV t.rs z.es s) s r
theorem val_ok {t:TabV} (_ok:Ok t) {zone s:Int} (h:(valV t zone s).2=0):∃ z,zoneAt t zone=some z∧lo≤s∧s≤hi:=by
 cases hz:zoneAt t zone with
 |none=>rw [(val_none s hz).1] at h;exact absurd h (by decide)
 |some z=>
  by_cases ho:s<lo∨hi<s
  ·rw [(val_out hz ho).1] at h;exact absurd h (by decide)
  ·exact ⟨z,rfl,by omega,by omega⟩
theorem nextT_total {t:TabV} (ok:Ok t) (hc:(Chk.check t.rs).2=0) (zone s:Int):∃ r,NextT t zone s r:=by
 by_cases h:(valV t zone s).2=0
 ·obtain ⟨z,hz,h0,h1⟩:=val_ok ok h;obtain ⟨r,hr⟩:=next_total (ok.good z (zone_mem hz).2.2.2) hc (VV t.rs z.es s) _ s h0 h1 (Nat.le_refl _);exact ⟨r,.inr ⟨z,hz,⟨h0,h1⟩,hr⟩⟩
 ·exact ⟨_,.inl ⟨h,rfl⟩⟩
theorem nextT_up {t:TabV} (ok:Ok t) (hc:(Chk.check t.rs).2=0) {zone s c:Int} (h:NextT t zone s (c,true)):s<c∧c≤hi:=by
 rcases h with ⟨_,h⟩|⟨z,hz,⟨h0,h1⟩,hr⟩
 ·cases h
 ·have:=(next_spec (ok.good z (zone_mem hz).2.2.2) hc hr h0 h1 rfl).1 rfl;exact ⟨this.1,this.2.1⟩
inductive Runs (t:TabV) (zone:Int):Int→List Int→Prop
 |nil {s n:Int}:NextT t zone s (n,false)→Runs t zone s []
 |cons {s c:Int} {xs:List Int}:NextT t zone s (c,true)→Runs t zone c xs→Runs t zone s (c :: xs)
theorem runs_total {t:TabV} (ok:Ok t) (hc:(Chk.check t.rs).2=0) (zone:Int):∀ (n:Nat) (s:Int),(hi-s).toNat≤n→∃ xs,Runs t zone s xs
 |n,s,hn=>by
  obtain ⟨⟨c,b⟩,hr⟩:=nextT_total ok hc zone s;cases b
  ·exact ⟨[],.nil hr⟩
  ·obtain ⟨a,b⟩:=nextT_up ok hc hr
   match n with
   |0=>omega
   |n+1=>
    obtain ⟨xs,hx⟩:=runs_total ok hc zone n c (by omega);exact ⟨c :: xs,.cons hr hx⟩
theorem NextA {w:World} {t:TabV} (ht:HoldsT w t) (ok:Ok t) (tb:Tab w) (hst:Sta w) (hc:(Chk.check t.rs).2=0) (zone s:Int) (hs:I64 s) {r:Int×Bool} (hr:NextT t zone s r):
 Calls prog 17 #[.agg #[t.rv,t.zv,t.lv],.int .i64 zone,.int .i64 s] w fun e w'=>e=.returned (.tuple #[.int .i64 r.1,.bool r.2])∧Below w.heap.size w w'∧w.heap.size<w'.heap.size:=by
 rcases hr with ⟨h,rfl⟩|⟨z,hz,⟨h0,h1⟩,hr⟩
 ·exact NextNot ht ok tb zone s hs h
 ·obtain ⟨k,rfl⟩:∃ k:Nat,zone=(k:Int):=⟨zone.toNat,by have:=(zone_mem hz).1;omega⟩;exact NextC ht ok tb hst hc k s hs hz h0 h1 hr
end Chg
end
section
open Go.RowKit NB
namespace Us
def us0:RuleV:=⟨⟨#[85,83]⟩,2007,32767,3,2,0,8,7200,0,3600,⟨#[68]⟩⟩
def us1:RuleV:=⟨⟨#[85,83]⟩,2007,32767,11,2,0,1,7200,0,0,⟨#[83]⟩⟩
def eu:RuleV:=⟨⟨#[69,85]⟩,1981,32767,3,1,0,0,3600,2,3600,⟨#[83]⟩⟩
theorem Us (w:World):Calls prog 88 #[] w fun e w'=>e=.returned (.slice (some ⟨w.heap.size,0,none⟩) 2 2)∧w'=w.alloc (.cells (us0.cells++us1.cells).toArray 57):=by
 unfold us0 us1 RuleV.cells;go_enter func88,ntmps88;go_wp2;go_ret;exact ⟨rfl,rfl⟩
def zero:RuleV:=⟨⟨#[]⟩,0,0,0,0,0,0,0,0,0,⟨#[]⟩⟩
def enn:RuleV:=⟨⟨#[69,85]⟩,1981,32767,4,0,0,1,3600,2,3600,⟨#[83]⟩⟩
def emm:RuleV:=⟨⟨#[69,85]⟩,1992,32767,4,0,0,1,3600,2,3600,⟨#[83]⟩⟩
def eoo:RuleV:=⟨⟨#[69,85]⟩,1981,1990,3,1,0,0,3600,2,3600,⟨#[83]⟩⟩
theorem fit_us0:us0.Fit:=⟨by decide,by decide,by unfold I64;decide,by unfold I64;decide,by unfold I64;decide,by unfold I64;decide⟩
theorem fit_us1:us1.Fit:=⟨by decide,by decide,by unfold I64;decide,by unfold I64;decide,by unfold I64;decide,by unfold I64;decide⟩
end Us
end
section
open Go.RowKit
namespace L33
open Frc
def eE:EraV:=⟨-18000,2,0,⟨#[85,83]⟩,⟨#[69,37,115,84]⟩,⟨false,0,0,0,0,0,0,0⟩⟩
theorem fit_eE:eE.Fit:=⟨by decide,by decide,by unfold I64;decide,by unfold I64;decide,by unfold I64;decide,by unfold I64;decide⟩
def eC:EraV:=⟨3600,1,3600,⟨#[]⟩,⟨#[37,122]⟩,⟨false,0,0,0,0,0,0,0⟩⟩
def eZ:EraV:=⟨0,0,0,⟨#[]⟩,⟨#[]⟩,⟨false,0,0,0,0,0,0,0⟩⟩
def eX:EraV:=⟨0,0,0,⟨#[]⟩,⟨#[88]⟩,⟨false,0,0,0,0,0,0,0⟩⟩
theorem lp1:lastP [Us.us0,Us.us1] eE 1719792000=some ⟨0,2024,1710036000⟩:=by
 unfold lastP Chn.lastO;rw [if_pos (by decide +kernel),show Occ.prevO [Us.us0,Us.us1] eE.rules ⟨-1,0,Chn.clampE 1719792000+64800+1⟩=some ⟨0,2024,1710036000⟩ by decide +kernel];exact Occ.pick_here (by decide +kernel)
theorem lp0:lastP [Us.us0,Us.us1] eE 0=none:=by
 unfold lastP Chn.lastO;rw [if_pos (by decide +kernel),show Occ.prevO [Us.us0,Us.us1] eE.rules ⟨-1,0,Chn.clampE 0+64800+1⟩=none by decide +kernel];exact Occ.pick_none
theorem s1:stateV [Us.us0,Us.us1] eE 1719792000=⟨-14400,3600,⟨#[69,68,84]⟩⟩:=by
 unfold stateV;rw [lp1];decide +kernel
theorem s0:stateV [Us.us0,Us.us1] eE 0=⟨-18000,0,⟨#[69,83,84]⟩⟩:=by
 unfold stateV;rw [lp0];decide +kernel
theorem a1:atV [Us.us0,Us.us1] eE 1719792000=(⟨-14400,3600,⟨#[69,68,84]⟩⟩,0):=by
 unfold atV;rw [if_pos (by decide +kernel),if_pos (by decide +kernel),s1]
theorem a0:atV [Us.us0,Us.us1] eE 0=(⟨-18000,0,⟨#[69,83,84]⟩⟩,0):=by
 unfold atV;rw [if_pos (by decide +kernel),if_pos (by decide +kernel),s0]
theorem n1:nextV [Us.us0,Us.us1] eE 1719792000=(1730613600,true):=by
 unfold nextV nextF;rw [if_pos (by decide +kernel),s1,lp1];decide +kernel
theorem p1:prevV [Us.us0,Us.us1] eE 1719792000=(1710054000,true):=by
 unfold prevV prevF;rw [if_pos (by decide +kernel),s1,lp1];decide +kernel
theorem n0:nextV [Us.us0,Us.us1] eE 0=(1173596400,true):=by
 unfold nextV nextF;rw [if_pos (by decide +kernel),s0,lp0];decide +kernel
theorem p0:prevV [Us.us0,Us.us1] eE 0=(0,false):=by
 unfold prevV prevF;rw [if_pos (by decide +kernel),lp0];rfl
theorem nx:nextV [Us.us0,Us.us1] eX 0=(0,false):=by
 unfold nextV;rw [if_neg (by decide +kernel)]
end L33
end
section
open Go.RowKit
namespace L34
open Pt
def eA:EraV:=⟨3600,0,0,⟨#[]⟩,⟨#[88]⟩,⟨true,1950,1,0,0,1,0,0⟩⟩
theorem fit_eA:eA.Fit:=⟨by decide,by decide,by unfold I64;decide,by unfold I64;decide,by unfold I64;decide,by unfold I64;decide⟩
def eB:EraV:=⟨7200,0,0,⟨#[]⟩,⟨#[89]⟩,⟨false,0,0,0,0,0,0,0⟩⟩
theorem fit_eB:eB.Fit:=⟨by decide,by decide,by unfold I64;decide,by unfold I64;decide,by unfold I64;decide,by unfold I64;decide⟩
def zA (v:Value):ZoneV:=⟨⟨#[65]⟩,v,[eA,eB]⟩
def zE (v:Value):ZoneV:=⟨⟨#[69]⟩,v,[L33.eE]⟩
def two (rv zv va ve:Value):TabV:=⟨rv,zv,.slice none 0 0,[Us.us0,Us.us1],[zA va,zE ve],[]⟩
theorem endsA:Zn.endsL [Us.us0,Us.us1] [eA,eB]=[-631155600]:=by decide +kernel
theorem endsE:Zn.endsL [Us.us0,Us.us1] [L33.eE]=[]:=by decide +kernel
theorem goodA:GoodE [Us.us0,Us.us1] [eA,eB]:=⟨by decide +kernel,by rw [endsA];exact List.pairwise_singleton _ _⟩
theorem goodE:GoodE [Us.us0,Us.us1] [L33.eE]:=⟨by decide +kernel,by rw [endsE];exact List.Pairwise.nil⟩
section
variable (rv zv va ve:Value)
theorem good:GoodT (two rv zv va ve):=by
 intro z hz;rcases List.mem_cons.1 hz with rfl|hz
 ·exact goodA
 ·rcases List.mem_cons.1 hz with rfl|hz
  ·exact goodE
  ·cases hz
theorem v3:valV (two rv zv va ve) 1 1719792000=(⟨-14400,3600,⟨#[69,68,84]⟩⟩,0):=by
 rw [(val_in (t:=two rv zv va ve) (zone:=1) (z:=zE ve) rfl (by decide) (by decide) (e:=L33.eE) (by show [L33.eE][idx (Zn.endsL [Us.us0,Us.us1] [L33.eE]) 1719792000]? =some L33.eE;rw [endsE];rfl)).1];exact L33.a1
theorem v4:valV (two rv zv va ve) 2 0=(zeroV,12):=(val_none (t:=two rv zv va ve) (zone:=2) 0 rfl).1
theorem v5:valV (two rv zv va ve) (-1) 971890963200=(zeroV,12):=(val_none (t:=two rv zv va ve) (zone:= -1) 971890963200 rfl).1
theorem v6:valV (two rv zv va ve) 0 971890963200=(zeroV,1):=(val_out (t:=two rv zv va ve) (zone:=0) (z:=zA va) rfl (by decide)).1
theorem v7:valV (two rv zv va ve) 0 (-1096193779201)=(zeroV,1):=(val_out (t:=two rv zv va ve) (zone:=0) (z:=zA va) rfl (by decide)).1
end
end L34
end
end Go.Proofs.YtgmfojgnjdpofaaGreatDoor
