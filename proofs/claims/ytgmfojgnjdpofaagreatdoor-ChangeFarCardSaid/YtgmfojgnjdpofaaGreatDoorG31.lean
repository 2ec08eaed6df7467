import Derived.Test.YtgmfojgnjdpofaaGreatDoorG29
import Derived.Test.YtgmfojgnjdpofaaGreatDoorG7
import Derived.Deep.RegionHeld3
import Derived.Test.YtgmfojgnjdpofaaGreatDoorG30
import Derived.Shelf.Abstract
import Derived.Shelf.RegionOpen
import Derived.WalkKit
import Derived.OwnWalkIn
import Derived.TacticsInMore
import Derived.LoopNIn
import Derived.LoopIn
import Derived.Test.YtgmfojgnjdpofaaGreatDoorG1
namespace Go.Proofs.YtgmfojgnjdpofaaGreatDoor
section
open Go.RowKit NB Nxt
def Sta (w:World):Prop:=Box w 0 #[.int .i64 (-1),.int .i64 0,.int .i64 (-2192387558400)] 156
theorem Sta.later {w w':World} (h:Sta w) (hb:Below w.heap.size w w'):Sta w':=Box.later h hb
namespace Frc
theorem inst_all {l:List RuleV} {e:EraV} {o:OccV} (hm:Chn.may e.off=true) (h:Occ.All l e.rules l.length o):(Chn.instE l e.rules e.off o).1=Chn.inst l e.rules e.off o:=by rw [Chn.instE_all hm h]
theorem nextF_all {l:List RuleV} {e:EraV} {v:ValV} {fr o:OccV} (hn:e.rules≠⟨#[]⟩) (h:Occ.nextO (othV l e v) e.rules fr=some o):Occ.All l e.rules l.length o:=by
 have hb:=Occ.best_next (othV l e v) e.rules fr
 rw [h,oth_len] at hb
 exact ((all_oth hn).1 hb.1).1
theorem rules_ne {e:EraV} (hR:Er.rightB e=true) (hk:e.kind=2):e.rules≠⟨#[]⟩:=by
 intro h
 have hne:¬Nam.nameE ⟨#[]⟩=0:=by decide +kernel
 unfold Er.rightB at hR
 rw [h,hk] at hR
 simp [hne] at hR
set_option maxHeartbeats 2000000 in
set_option maxRecDepth 100000 in
theorem next0 {w:World} {r:Value} {l:List RuleV} (hr:Holds w r l) (e:EraV) (he:e.Fit) (t:Int) (ht:Tab w) (h:¬(Er.rightB e=true∧e.kind=2)):
 Calls Tryz.prog 54 #[r,.agg e.cells.toArray,.int .i64 t] w fun x w'=>x= .returned (.tuple #[.int .i64 0,.bool false])∧Below w.heap.size w w':=by
 have cr:=fun W (h:Tab W)=>Er.Right e he W h
 have HT:=Lib.hid ht
 obtain ⟨rp,rc,rfl⟩:=hr.form
 cases hR:Er.rightB e
 ·rw [hR] at cr
  unfold EraV.cells at *
  have Cr:=Lib.hid cr
  clear cr hr ht h
  go_enter Tryz.func54,Tryz.ntmps54
  go_wp2_with (go_at_call 96;(with_reducible refine (Cr.out _ ?_).mono ?_);(· exact HT.out.later bcq);rintro e w1 ⟨rfl,hb1⟩;obtain ⟨hc1_0,hf1_0,hz1_0⟩:=bcs hb1 (w.heap.size))
  go_ret2
  exact ⟨rfl,bcq⟩
 ·have hk:¬e.kind=2:=fun hk=>h ⟨hR,hk⟩
  rw [hR] at cr
  unfold EraV.cells at *
  have Cr:=Lib.hid cr
  clear cr hr ht h
  go_enter Tryz.func54,Tryz.ntmps54
  go_wp2_with (go_at_call 96;(with_reducible refine (Cr.out _ ?_).mono ?_);(· exact HT.out.later bcq);rintro e w1 ⟨rfl,hb1⟩;obtain ⟨hc1_0,hf1_0,hz1_0⟩:=bcs hb1 (w.heap.size))
  go_ret2
  exact ⟨rfl,bcq⟩
set_option maxHeartbeats 2000000 in
set_option maxRecDepth 100000 in
theorem next1 {w:World} {r:Value} {l:List RuleV} (hr:Holds w r l) (e:EraV) (he:e.Fit) (t:Int) (ht:Tab w) (hst:Sta w) (hs:∀ x∈l,x.letter.size≤1000000) (hn:l.length≤100000) (hR:Er.rightB e=true) (hk:e.kind=2):
 Calls Tryz.prog 54 #[r,.agg e.cells.toArray,.int .i64 t] w fun x w'=>x= .returned (.tuple #[.int .i64 (tell l e (nextF l e t)).1,.bool (tell l e (nextF l e t)).2])∧Below w.heap.size w w':=by
 have hne:=rules_ne hR hk
 have hm:Chn.may e.off=true:=Chn.may_iff.2 (Unt.right_spec hR).1
 have cr:=fun W (h:Tab W)=>Er.Right e he W h
 rw [hR] at cr
 have co:=fun W (h:Holds W r l) (ht:Tab W)=>of1 e he h ht hs hn
 have ca:=fun W b g (h:View W b l e r g) (h':Tab W)=>atW h he h' t hn
 have cq:=fun W b g (h:View W b l e r g) v=>others h hn v
 unfold atR at ca
 rw [if_pos hk] at ca
 obtain ⟨v,hv⟩:∃ v,v=stateV l e t:=⟨_,rfl⟩
 rw [← hv] at ca
 obtain ⟨fr,hfr⟩:∃ fr,fr=(lastP l e t).getD startO:=⟨_,rfl⟩
 obtain ⟨N,hN⟩:∃ N,N=nextF l e t:=⟨_,rfl⟩
 have hNx:N=Occ.nextO (othX l e v) e.rules fr:=by
  rw [hN,next_othX hne,hv,hfr]
  rfl
 have cx:=fun W u (h:Holds W u (othX l e v))=>NxH.Next h e.rules fr
 rw [← hNx] at cx
 rw [← hN]
 have hall:∀ o,N=some o→Occ.All l e.rules l.length o:=fun o ho=>nextF_all hne (v:=v) (fr:=fr) (by rw [← next_othX hne, ←hNx];exact ho)
 have ci0:=fun W b g (h:View W b l e r g) o=>instant0 h o
 have ci1:=fun W b g (h:View W b l e r g) o (ho:N=some o)=>by have:=instant1 h o;rw [inst_all hm (hall o ho)] at this;exact this
 have HH:=Lib.hid hr
 have HT:=Lib.hid ht
 have HS:=Lib.hid hst
 have HFr:=Lib.hid hfr
 unfold EraV.cells ValV.cells OccV.cells at *
 simp only [hk] at cr co
 have Cr:=Lib.hid cr
 have Co:=Lib.hid co
 have Ca:=Lib.hid ca
 have Cq:=Lib.hid cq
 have Cx:=Lib.hid cx
 have Ci0:=Lib.hid ci0
 have Ci1:=Lib.hid ci1
 obtain ⟨rp,rc,rfl⟩:=hr.form
 clear cr co ca cq cx ci0 ci1 hr ht hst hs hv hN hNx hall hfr hne hm
 generalize hnl:l.length=n at *
 clear hnl
 rw [hk]
 go_enter Tryz.func54,Tryz.ntmps54
 go_upto_region 4 with (first
  |(go_at_call 96;(with_reducible refine (Cr.out _ ?_).mono ?_);(· exact HT.out.later bcq);rintro e w1 ⟨rfl,hb1⟩;obtain ⟨hc1_0,hf1_0,hz1_0⟩:=bcs hb1 (w.heap.size))
  |(go_at_call 97;(with_reducible refine (Co.out _ ?_ ?_).mono ?_);(· exact HH.out.later bcq);(· exact HT.out.later bcq);rintro z w2 ⟨b,g,rfl,hvw,hb2⟩;obtain ⟨hc2_0,hf2_0,hz2_0⟩:=bcs hb2 (w.heap.size)))
 have b4:Box w2 w.heap.size #[.int .i64 e.off,.int .i64 2,.int .i64 e.save,.string e.rules,.string e.format,.bool e.u.has,.int .i64 e.u.year,.int .i64 e.u.month,.int .i64 e.u.kind,.int .i64 e.u.week,.int .i64 e.u.day,.int .i64 e.u.sec,.int .i64 e.u.base] 53:=bxq
 have hbel:Below w.heap.size w w2:=bcq
 have hsta:Sta w2:=HS.out.later hbel
 have htab:Tab w2:=HT.out.later hbel
 have HVw:=Lib.hid hvw
 have HBL:=Lib.hid hbel
 have HB4:=Lib.hid b4
 have HTab:=Lib.hid htab
 have gS:=hsta.cell
 have lS:=hsta.lt
 have k4:=b4.cell
 have l4:=b4.lt
 clear hvw hbel htab b4 hb2 hc2_0 hf2_0 hz2_0 hsta
 cases hlp:lastP l e t
 case none=>
  have ca':∀ W b g,View W b l e (.slice rp n rc) g→Tab W→Calls Tryz.prog 98 #[.pointer (some ⟨b,0,none⟩),.int .i64 t] W fun x w'=>x= .returned (.tuple #[.agg #[.int .i64 v.off,.int .i64 v.save,.string v.abbr],.agg #[.int .i64 0,.int .i64 0,.int .i64 0],.bool false])∧Below W.heap.size W w':=fun W b g h h'=>by have:=Ca.out W b g h h';rw [hlp] at this;exact this
  have hfr':fr=startO:=by rw [HFr.out,hlp];rfl
  subst hfr'
  unfold startO at *
  simp only at *
  have Ca':=Lib.hid ca'
  clear ca' hlp Ca HFr
  go_upto_region 7 with (go_at_call 98;(with_reducible refine (Ca'.out _ _ _ HVw.out ?_).mono ?_);(· exact HTab.out);rintro z w3 ⟨rfl,hb3⟩;obtain ⟨hc3_0,hf3_0,hz3_0⟩:=bcs hb3 (w.heap.size);obtain ⟨hc3_1,hf3_1,hz3_1⟩:=bcs hb3 (0))
  have b9:Box ((w3.alloc (.cells #[.int .i64 v.off,.int .i64 v.save,.string v.abbr] 30)).alloc (.cells #[.int .i64 (-1),.int .i64 0,.int .i64 (-2192387558400)] 156)) w3.heap.size #[.int .i64 v.off,.int .i64 v.save,.string v.abbr] 30:=Box.old (Box.new _ _ _)
  have b10:Box ((w3.alloc (.cells #[.int .i64 v.off,.int .i64 v.save,.string v.abbr] 30)).alloc (.cells #[.int .i64 (-1),.int .i64 0,.int .i64 (-2192387558400)] 156)) (w3.heap.size+1) #[.int .i64 (-1),.int .i64 0,.int .i64 (-2192387558400)] 156:=boxS1 _ _ _ _
  have b4:Box ((w3.alloc (.cells #[.int .i64 v.off,.int .i64 v.save,.string v.abbr] 30)).alloc (.cells #[.int .i64 (-1),.int .i64 0,.int .i64 (-2192387558400)] 156)) w.heap.size #[.int .i64 e.off,.int .i64 2,.int .i64 e.save,.string e.rules,.string e.format,.bool e.u.has,.int .i64 e.u.year,.int .i64 e.u.month,.int .i64 e.u.kind,.int .i64 e.u.week,.int .i64 e.u.day,.int .i64 e.u.sec,.int .i64 e.u.base] 53:=Box.old (Box.old (HB4.out.later hb3))
  have hX:Below w2.heap.size w2 ((w3.alloc (.cells #[.int .i64 v.off,.int .i64 v.save,.string v.abbr] 30)).alloc (.cells #[.int .i64 (-1),.int .i64 0,.int .i64 (-2192387558400)] 156)):=bcq
  generalize ((w3.alloc (.cells #[.int .i64 v.off,.int .i64 v.save,.string v.abbr] 30)).alloc (.cells #[.int .i64 (-1),.int .i64 0,.int .i64 (-2192387558400)] 156))=X at *
  obtain ⟨p9,hp9⟩:∃ p,p=w3.heap.size:=⟨_,rfl⟩
  rw [← hp9] at b9 b10 ⊢
  obtain ⟨p10,hp10⟩:∃ p,p=p9+1:=⟨_,rfl⟩
  rw [← hp10] at b10 ⊢
  have hVX:=HVw.out.later hX
  have hWX:=HBL.out.trans (hX.mono HBL.out.size)
  have hSF:∀ u:World,Below X.heap.size X u→(∀ o,u.cell? ⟨w.heap.size,o,none⟩=(#[.int .i64 e.off,.int .i64 2,.int .i64 e.save,.string e.rules,.string e.format,.bool e.u.has,.int .i64 e.u.year,.int .i64 e.u.month,.int .i64 e.u.kind,.int .i64 e.u.week,.int .i64 e.u.day,.int .i64 e.u.sec,.int .i64 e.u.base]:Array Value)[o]?)∧(∀ o,u.cell? ⟨p9,o,none⟩=(#[.int .i64 v.off,.int .i64 v.save,.string v.abbr]:Array Value)[o]?)∧(∀ o,u.cell? ⟨p10,o,none⟩=(#[.int .i64 (-1),.int .i64 0,.int .i64 (-2192387558400)]:Array Value)[o]?):=fun u hu=>⟨(b4.later hu).cell,(b9.later hu).cell,(b10.later hu).cell⟩
  have HVX:=Lib.hid hVX
  have HWX:=Lib.hid hWX
  have HSF:=Lib.hid hSF
  clear b9 b10 b4 hX hp9 hp10 hVX hWX hSF hb3 hc3_0 hf3_0 hc3_1 hf3_1 hz3_0 hz3_1 gS lS k4 l4
  rcases N with _|o
  case' none=>
   have cx:∀ W u,Holds W u (othX l e v)→Calls Tryz.prog 100 #[u,.string e.rules,.agg #[.int .i64 (-1),.int .i64 0,.int .i64 (-2192387558400)]] W fun z w'=>z= .returned (.tuple #[.agg #[.int .i64 0,.int .i64 0,.int .i64 0],.bool false])∧Below W.heap.size W w':=fun W u h=>Cx.out W u h
   have ci:∀ W b g,View W b l e (.slice rp n rc) g→Calls Tryz.prog 99 #[.pointer (some ⟨b,0,none⟩),.agg #[.int .i64 0,.int .i64 0,.int .i64 0],.bool false] W fun z w'=>z= .returned (.tuple #[.int .i64 0,.bool false])∧Below W.heap.size W w':=fun W b g h=>Ci0.out W b g h ⟨0,0,0⟩
  case' some=>
   have cx:∀ W u,Holds W u (othX l e v)→Calls Tryz.prog 100 #[u,.string e.rules,.agg #[.int .i64 (-1),.int .i64 0,.int .i64 (-2192387558400)]] W fun z w'=>z= .returned (.tuple #[.agg #[.int .i64 o.rule,.int .i64 o.year,.int .i64 o.nom],.bool true])∧Below W.heap.size W w':=fun W u h=>Cx.out W u h
   obtain ⟨io,hio⟩:∃ io,io=Chn.inst l e.rules e.off o:=⟨_,rfl⟩
   have ci:∀ W b g,View W b l e (.slice rp n rc) g→Calls Tryz.prog 99 #[.pointer (some ⟨b,0,none⟩),.agg #[.int .i64 o.rule,.int .i64 o.year,.int .i64 o.nom],.bool true] W fun z w'=>z= .returned (.tuple #[.int .i64 io,.bool true])∧Below W.heap.size W w':=fun W b g h=>by rw [hio];exact Ci1.out W b g h o rfl
   have HIO:=Lib.hid hio
   clear hio
  all_goals
   have CX:=Lib.hid cx
   have CI:=Lib.hid ci
   clear cx ci Cx Ci0 Ci1
   go_region_held3 (fun w'=>(∀ o,w'.cell? ⟨w.heap.size,o,none⟩=(#[.int .i64 e.off,.int .i64 2,.int .i64 e.save,.string e.rules,.string e.format,.bool e.u.has,.int .i64 e.u.year,.int .i64 e.u.month,.int .i64 e.u.kind,.int .i64 e.u.week,.int .i64 e.u.day,.int .i64 e.u.sec,.int .i64 e.u.base]:Array Value)[o]?)∧(∀ o,w'.cell? ⟨p9,o,none⟩=(#[.int .i64 v.off,.int .i64 v.save,.string v.abbr]:Array Value)[o]?)∧(∀ o,w'.cell? ⟨p10,o,none⟩=(#[.int .i64 (-1),.int .i64 0,.int .i64 (-2192387558400)]:Array Value)[o]?)) ((refine HSF.out _ ?_;exact bcq)) (first
    |(go_at_call 101;(with_reducible refine (Cq.out _ _ _ (HVX.out.later ?_) v).mono ?_);(· exact bcq);rintro z w4 ⟨u4,rfl,hvo,hb4⟩)
    |(go_at_call 100;(with_reducible refine (CX.out _ _ ?_).mono ?_);(· exact hvo.later bcq);rintro z w5 ⟨rfl,hb5⟩)
    |(go_at_call 99;(with_reducible refine (CI.out _ _ _ (HVX.out.later ?_)).mono ?_);(· exact bcq);rintro z w6 ⟨rfl,hb6⟩))
   all_goals
    go_wp2
    have hWX:=HWX.out
    go_ret2
    first
     |exact ⟨rfl,bcq⟩
     |exact ⟨by rw [HIO.out];rfl,bcq⟩
 case some lo=>
  have ca':∀ W b g,View W b l e (.slice rp n rc) g→Tab W→Calls Tryz.prog 98 #[.pointer (some ⟨b,0,none⟩),.int .i64 t] W fun x w'=>x= .returned (.tuple #[.agg #[.int .i64 v.off,.int .i64 v.save,.string v.abbr],.agg #[.int .i64 fr.rule,.int .i64 fr.year,.int .i64 fr.nom],.bool true])∧Below W.heap.size W w':=fun W b g h h'=>by have:=Ca.out W b g h h';have e:fr=lo:=(by rw [HFr.out,hlp];rfl);rw [hlp, ←e] at this;exact this
  have Ca':=Lib.hid ca'
  clear ca' hlp Ca HFr
  go_upto_region 7 with (go_at_call 98;(with_reducible refine (Ca'.out _ _ _ HVw.out ?_).mono ?_);(· exact HTab.out);rintro z w3 ⟨rfl,hb3⟩;obtain ⟨hc3_0,hf3_0,hz3_0⟩:=bcs hb3 (w.heap.size);obtain ⟨hc3_1,hf3_1,hz3_1⟩:=bcs hb3 (0))
  have b9:Box ((w3.alloc (.cells #[.int .i64 v.off,.int .i64 v.save,.string v.abbr] 30)).alloc (.cells #[.int .i64 fr.rule,.int .i64 fr.year,.int .i64 fr.nom] 156)) w3.heap.size #[.int .i64 v.off,.int .i64 v.save,.string v.abbr] 30:=Box.old (Box.new _ _ _)
  have b10:Box ((w3.alloc (.cells #[.int .i64 v.off,.int .i64 v.save,.string v.abbr] 30)).alloc (.cells #[.int .i64 fr.rule,.int .i64 fr.year,.int .i64 fr.nom] 156)) (w3.heap.size+1) #[.int .i64 fr.rule,.int .i64 fr.year,.int .i64 fr.nom] 156:=boxS1 _ _ _ _
  have b4:Box ((w3.alloc (.cells #[.int .i64 v.off,.int .i64 v.save,.string v.abbr] 30)).alloc (.cells #[.int .i64 fr.rule,.int .i64 fr.year,.int .i64 fr.nom] 156)) w.heap.size #[.int .i64 e.off,.int .i64 2,.int .i64 e.save,.string e.rules,.string e.format,.bool e.u.has,.int .i64 e.u.year,.int .i64 e.u.month,.int .i64 e.u.kind,.int .i64 e.u.week,.int .i64 e.u.day,.int .i64 e.u.sec,.int .i64 e.u.base] 53:=Box.old (Box.old (HB4.out.later hb3))
  have hX:Below w2.heap.size w2 ((w3.alloc (.cells #[.int .i64 v.off,.int .i64 v.save,.string v.abbr] 30)).alloc (.cells #[.int .i64 fr.rule,.int .i64 fr.year,.int .i64 fr.nom] 156)):=bcq
  generalize ((w3.alloc (.cells #[.int .i64 v.off,.int .i64 v.save,.string v.abbr] 30)).alloc (.cells #[.int .i64 fr.rule,.int .i64 fr.year,.int .i64 fr.nom] 156))=X at *
  obtain ⟨p9,hp9⟩:∃ p,p=w3.heap.size:=⟨_,rfl⟩
  rw [← hp9] at b9 b10 ⊢
  obtain ⟨p10,hp10⟩:∃ p,p=p9+1:=⟨_,rfl⟩
  rw [← hp10] at b10 ⊢
  have hVX:=HVw.out.later hX
  have hWX:=HBL.out.trans (hX.mono HBL.out.size)
  have hSF:∀ u:World,Below X.heap.size X u→(∀ o,u.cell? ⟨w.heap.size,o,none⟩=(#[.int .i64 e.off,.int .i64 2,.int .i64 e.save,.string e.rules,.string e.format,.bool e.u.has,.int .i64 e.u.year,.int .i64 e.u.month,.int .i64 e.u.kind,.int .i64 e.u.week,.int .i64 e.u.day,.int .i64 e.u.sec,.int .i64 e.u.base]:Array Value)[o]?)∧(∀ o,u.cell? ⟨p9,o,none⟩=(#[.int .i64 v.off,.int .i64 v.save,.string v.abbr]:Array Value)[o]?)∧(∀ o,u.cell? ⟨p10,o,none⟩=(#[.int .i64 fr.rule,.int .i64 fr.year,.int .i64 fr.nom]:Array Value)[o]?):=fun u hu=>⟨(b4.later hu).cell,(b9.later hu).cell,(b10.later hu).cell⟩
  have HVX:=Lib.hid hVX
  have HWX:=Lib.hid hWX
  have HSF:=Lib.hid hSF
  clear b9 b10 b4 hX hp9 hp10 hVX hWX hSF hb3 hc3_0 hf3_0 hc3_1 hf3_1 hz3_0 hz3_1 gS lS k4 l4
  rcases N with _|o
  case' none=>
   have cx:∀ W u,Holds W u (othX l e v)→Calls Tryz.prog 100 #[u,.string e.rules,.agg #[.int .i64 fr.rule,.int .i64 fr.year,.int .i64 fr.nom]] W fun z w'=>z= .returned (.tuple #[.agg #[.int .i64 0,.int .i64 0,.int .i64 0],.bool false])∧Below W.heap.size W w':=fun W u h=>Cx.out W u h
   have ci:∀ W b g,View W b l e (.slice rp n rc) g→Calls Tryz.prog 99 #[.pointer (some ⟨b,0,none⟩),.agg #[.int .i64 0,.int .i64 0,.int .i64 0],.bool false] W fun z w'=>z= .returned (.tuple #[.int .i64 0,.bool false])∧Below W.heap.size W w':=fun W b g h=>Ci0.out W b g h ⟨0,0,0⟩
  case' some=>
   have cx:∀ W u,Holds W u (othX l e v)→Calls Tryz.prog 100 #[u,.string e.rules,.agg #[.int .i64 fr.rule,.int .i64 fr.year,.int .i64 fr.nom]] W fun z w'=>z= .returned (.tuple #[.agg #[.int .i64 o.rule,.int .i64 o.year,.int .i64 o.nom],.bool true])∧Below W.heap.size W w':=fun W u h=>Cx.out W u h
   obtain ⟨io,hio⟩:∃ io,io=Chn.inst l e.rules e.off o:=⟨_,rfl⟩
   have ci:∀ W b g,View W b l e (.slice rp n rc) g→Calls Tryz.prog 99 #[.pointer (some ⟨b,0,none⟩),.agg #[.int .i64 o.rule,.int .i64 o.year,.int .i64 o.nom],.bool true] W fun z w'=>z= .returned (.tuple #[.int .i64 io,.bool true])∧Below W.heap.size W w':=fun W b g h=>by rw [hio];exact Ci1.out W b g h o rfl
   have HIO:=Lib.hid hio
   clear hio
  all_goals
   have CX:=Lib.hid cx
   have CI:=Lib.hid ci
   clear cx ci Cx Ci0 Ci1
   go_region_held3 (fun w'=>(∀ o,w'.cell? ⟨w.heap.size,o,none⟩=(#[.int .i64 e.off,.int .i64 2,.int .i64 e.save,.string e.rules,.string e.format,.bool e.u.has,.int .i64 e.u.year,.int .i64 e.u.month,.int .i64 e.u.kind,.int .i64 e.u.week,.int .i64 e.u.day,.int .i64 e.u.sec,.int .i64 e.u.base]:Array Value)[o]?)∧(∀ o,w'.cell? ⟨p9,o,none⟩=(#[.int .i64 v.off,.int .i64 v.save,.string v.abbr]:Array Value)[o]?)∧(∀ o,w'.cell? ⟨p10,o,none⟩=(#[.int .i64 fr.rule,.int .i64 fr.year,.int .i64 fr.nom]:Array Value)[o]?)) ((refine HSF.out _ ?_;exact bcq)) (first
    |(go_at_call 101;(with_reducible refine (Cq.out _ _ _ (HVX.out.later ?_) v).mono ?_);(· exact bcq);rintro z w4 ⟨u4,rfl,hvo,hb4⟩)
    |(go_at_call 100;(with_reducible refine (CX.out _ _ ?_).mono ?_);(· exact hvo.later bcq);rintro z w5 ⟨rfl,hb5⟩)
    |(go_at_call 99;(with_reducible refine (CI.out _ _ _ (HVX.out.later ?_)).mono ?_);(· exact bcq);rintro z w6 ⟨rfl,hb6⟩))
   all_goals
    go_wp2
    have hWX:=HWX.out
    go_ret2
    first
     |exact ⟨rfl,bcq⟩
     |exact ⟨by rw [HIO.out];rfl,bcq⟩
theorem Next {w:World} {r:Value} {l:List RuleV} (hr:Holds w r l) (e:EraV) (he:e.Fit) (t:Int) (ht:Tab w) (hst:Sta w) (hs:∀ x∈l,x.letter.size≤1000000) (hn:l.length≤100000):
 Calls Tryz.prog 54 #[r,.agg e.cells.toArray,.int .i64 t] w fun x w'=>x= .returned (.tuple #[.int .i64 (nextV l e t).1,.bool (nextV l e t).2])∧Below w.heap.size w w':=by
 unfold nextV
 by_cases h:Er.rightB e=true∧e.kind=2
 ·rw [if_pos h]
  exact next1 hr e he t ht hst hs hn h.1 h.2
 ·rw [if_neg h]
  exact next0 hr e he t ht h
end Frc
end
section
open Go.RowKit NB
namespace Chg
open Pt
set_option maxRecDepth 100000 in
set_option maxHeartbeats 3200000 in
theorem NextNot {w:World} {t:TabV} (ht:HoldsT w t) (ok:Ok t) (tb:Tab w) (zone s:Int) (hs:I64 s) (hb:(valV t zone s).2≠0):
 Calls Tryz.prog 17 #[.agg #[t.rv,t.zv,t.lv],.int .i64 zone,.int .i64 s] w fun e w'=>e= .returned (.tuple #[.int .i64 0,.bool false])∧Below w.heap.size w w'∧w.heap.size<w'.heap.size:=by
 have cv:=fun W (h:HoldsT W t) (tb:Tab W)=>FromNot h ok tb zone s hs hb
 have HTT:=Lib.hid ht
 have HTB:=Lib.hid tb
 obtain ⟨p,cap,e1⟩:=ht.r.form
 obtain ⟨pz,capz,e3⟩:=ht.z.form
 obtain ⟨pl,capl,e7⟩:=ht.l.form
 obtain ⟨rv,zv,lv,rs,zs,ls⟩:=t
 dsimp only at e1 e3 e7 cv HTT ⊢
 subst e1 e3 e7
 generalize rs.length=n at *
 generalize zs.length=nz at *
 generalize ls.length=nl at *
 have CV:=Lib.hid cv
 clear cv ht tb ok hb
 go_enter Tryz.func17,Tryz.ntmps17
 go_upto_region 2 with (go_at_call 52;(with_reducible refine (CV.out _ ?_ ?_).mono ?_);(· exact HTT.out.later bcq);(· exact HTB.out.later bcq);rintro e w1 ⟨rfl,hb1⟩;obtain ⟨hc1_0,hf1_0,hz1_0⟩:=bcs hb1 (w.heap.size))
 go_loopw [2] (fun s2 wr=>wr=w1) (fun _ _=>0)
 case atStart=>rfl
 case round=>
  subst hrel
  go_wp2
  go_ret2
  exact ⟨rfl,bcq,hz1_0⟩
set_option maxRecDepth 100000 in
set_option maxHeartbeats 6400000 in
theorem NextC {w:World} {t:TabV} (ht:HoldsT w t) (ok:Ok t) (tb:Tab w) (hst:Sta w) (hc:(Chk.check t.rs).2=0) (k:Nat) (s:Int) (hs:I64 s) {z:ZoneV} (hzz:zoneAt t (k:Int)=some z) (h0:lo≤s) (h1:s≤hi) {r:Int×Bool} (hr:NextR t.rs z.es (VV t.rs z.es s) s r):
 Calls Tryz.prog 17 #[.agg #[t.rv,t.zv,t.lv],.int .i64 k,.int .i64 s] w fun e w'=>e= .returned (.tuple #[.int .i64 r.1,.bool r.2])∧Below w.heap.size w w'∧w.heap.size<w'.heap.size:=by
 have cfm:=fun W (h:HoldsT W t) (tb:Tab W)=>From h ok tb k s hs hzz h0 h1
 have hzm:=(zone_mem hzz).2.2.2
 have hg:=ok.good z hzm
 have hfit:=(ht.zf z hzm).e.fit
 have cer:=fun W (p:Nat) (pe:Option Addr) (cp:Nat) (hW:Walk W p t k (Zn.endsL t.rs z.es) (VV t.rs z.es s) pe cp) (h:HoldsT W t) (c:Int) (c0:lo≤c) (c1:c≤hi) (x:EraV) (hx:z.es[idx (Zn.endsL t.rs z.es) c]? =some x)=>EraC hW h ok hzz c c0 c1 hx
 have cot:=fun W (p:Nat) (pe:Option Addr) (cp:Nat) (hW:Walk W p t k (Zn.endsL t.rs z.es) (VV t.rs z.es s) pe cp) (h:HoldsT W t) (tb:Tab W) (c:Int) (c0:lo≤c) (c1:c≤hi)=>OtherC hW h ok tb hzz c c0 c1
 have cfn:=fun W (h:Holds W t.rv t.rs) (x:EraV) (hx:x.Fit) (c:Int) (tb:Tab W) (hst:Sta W)=>Frc.Next h x hx c tb hst ok.lets (by have:=ok.rn;omega)
 have hstep:=fun (c:Int) (c0:lo≤c) (c1:c≤hi)=>(stepN_spec hg hc c0 c1).2
 have hera:=fun (c:Int)=>era_at hg c
 have hnx:=fun (c:Int) (c0:lo≤c) (c1:c≤hi) (e:EraV) (hR:Er.rightB e=true) n (h:Frc.nextV t.rs e c=(n,true))=>(L33.nextB hc hR (t:=c) (by unfold lo at c0;omega) (by unfold hi at c1;omega) h)
 have hend:=fun (i:Nat) x (h:(Zn.endsL t.rs z.es)[i]? =some x)=>end_range hg.zone h
 have HTT:=Lib.hid ht
 have HTB:=Lib.hid tb
 have HST:=Lib.hid hst
 obtain ⟨p0,cap,e1⟩:=ht.r.form
 obtain ⟨pz,capz,e3⟩:=ht.z.form
 obtain ⟨pl,capl,e7⟩:=ht.l.form
 have hhr:=ht.r
 generalize VV t.rs z.es s=V at *
 obtain ⟨R,B⟩:=r
 dsimp only
 have CFM:=Lib.hid cfm;have CER:=Lib.hid cer;have COT:=Lib.hid cot;have CFN:=Lib.hid cfn;have HSTEP:=Lib.hid hstep;have HERA:=Lib.hid hera;have HNX:=Lib.hid hnx;have HEND:=Lib.hid hend;have HR:=Lib.hid hr;have HFIT:=Lib.hid hfit;have HHR:=Lib.hid hhr
 clear cfm cer cot cfn hstep hera hnx hend hr hfit hhr ok ht tb hst hg hc hzm hzz
 obtain ⟨rv,zv,lv,rs,zs,ls⟩:=t
 dsimp only at e1 e3 e7 ⊢
 subst e1 e3 e7
 generalize rs.length=n at *
 generalize zs.length=nz at *
 generalize ls.length=nl at *
 go_enter Tryz.func17,Tryz.ntmps17
 go_upto_region 1 with fail
 obtain ⟨w1,hw1⟩:∃ V,V=w.alloc (.cells #[.slice p0 n cap,.slice pz nz capz,.slice pl nl capl] 26):=⟨_,rfl⟩
 have b1:Box w1 w.heap.size #[.slice p0 n cap,.slice pz nz capz,.slice pl nl capl] 26:=by rw [hw1];exact Box.new _ _ _
 have hB1:Below w.heap.size w w1:=by rw [hw1];exact bcq
 rw [← hw1]
 clear hw1
 have c1:=b1.cell
 go_upto_region 2 with (go_at_call 52;(with_reducible refine (CFM.out _ ?_ ?_).mono ?_);(· exact HTT.out.later hB1);(· exact HTB.out.later hB1);rintro e w2 ⟨p,pe,cp,rfl,hW,hb2⟩;have HW:=Lib.hid hW;clear hW)
 have HB2:=Lib.hid (hB1.trans (hb2.mono hB1.size))
 have HT2:=Lib.hid (b1.later hb2)
 clear hB1 hb2 b1 c1
 go_loopw [2] (fun s2 wr=>∃ c:Int,s2= .int .i64 c∧(lo≤c∧c≤hi)∧Hid (NextR rs z.es V c (R,B))∧Below w2.heap.size w2 wr) (fun s2 _=>(hi-intOf s2).toNat)
 case atStart=>exact ⟨s,rfl,⟨h0,h1⟩,HR.out,Below.refl _ _⟩
 case round=>
  obtain ⟨c,rfl,⟨c0,c1⟩,HC,hbr⟩:=hrel
  obtain ⟨x,hx,hxR,_⟩:=HERA.out c
  have hxF:=HFIT.out x (List.mem_of_getElem? hx)
  have hbw:Below w.heap.size w wr:=HB2.out.trans (hbr.mono HB2.out.size)
  have HWr:=Lib.hid (HW.out.later hbr)
  have hTr:=Lib.hid (HTT.out.later hbw);have hBr:=Lib.hid (HTB.out.later hbw);have hSr:=Lib.hid (HST.out.later hbw);have hHr:=Lib.hid (HHR.out.later hbw)
  have cT:=(HT2.out.later hbr).cell
  have kT:=(HT2.out.later hbr).lt
  have cP:=HWr.out.box.cell
  have kP:=HWr.out.box.lt
  have ce:=fun W (h:Below wr.heap.size wr W)=>CER.out W p pe cp (HWr.out.later h) (hTr.out.later h) c c0 c1 x hx
  have cn:=fun W (h:Below wr.heap.size wr W)=>CFN.out W (hHr.out.later h) x hxF c (hBr.out.later h) (hSr.out.later h)
  obtain ⟨N,hN⟩:∃ N,Frc.nextV rs x c=N:=⟨_,rfl⟩
  obtain ⟨nn,nb⟩:=N
  rw [hN] at cn
  obtain ⟨I,hI⟩:∃ I,I=idx (Zn.endsL rs z.es) c:=⟨_,rfl⟩
  obtain ⟨LN,hLN⟩:∃ N,N=(Zn.endsL rs z.es).length:=⟨_,rfl⟩
  obtain ⟨C,hC⟩:∃ C,candN rs z.es c=C:=⟨_,rfl⟩
  obtain ⟨cn1,cn2⟩:=C
  unfold EraV.cells at ce cn
  try dsimp only at ce cn cP
  rw [← hI] at ce
  rw [← hLN] at cP
  have CEE:=Lib.hid ce;have CNN:=Lib.hid cn;have HX:=Lib.hid hx;have HNN:=Lib.hid hN;have HI:=Lib.hid hI;have HLN:=Lib.hid hLN;have HCN:=Lib.hid hC
  clear ce cn hx hN hI hLN hC hbw
  go_upto_region 5 with (first
   |(go_at_call 53;(with_reducible refine (CEE.out _ ?_).mono ?_);(· exact bcq);rintro e w3 ⟨rfl,hb3⟩;obtain ⟨hc3_0,hf3_0,hz3_0⟩:=bcs hb3 (w.heap.size);obtain ⟨hc3_1,hf3_1,hz3_1⟩:=bcs hb3 (p))
   |(go_at_call 54;(with_reducible refine (CNN.out _ ?_).mono ?_);(· exact bcq);rintro e w4 ⟨rfl,hb4⟩;obtain ⟨hc4_0,hf4_0,hz4_0⟩:=bcs hb4 (w.heap.size);obtain ⟨hc4_1,hf4_1,hz4_1⟩:=bcs hb4 (p)))
  have hb4':Below wr.heap.size wr w4:=bcq
  go_cut [57] from 36 to 56 (fun s57 wx=>((s57= .bool true∧I<LN∧∃ tt,(Zn.endsL rs z.es)[I]? =some tt∧cn1=tt∧cn2=true)∨(s57= .bool false∧cn1=nn∧cn2=nb))∧wx=w4)
  case first=>
   obtain ⟨pp,cc,epp,hpe⟩:=HWr.out.ends.pkI
   cases epp
   by_cases hIN:I<LN
   ·obtain ⟨tt,htt⟩:∃ tt,(Zn.endsL rs z.es)[I]? =some tt:=⟨_,List.getElem?_eq_getElem (by rw [← HLN.out];exact hIN)⟩
    obtain ⟨b,off,rfl,hb,c9⟩:=hpe I tt htt
    replace c9:=(hb4'.cell (p:=⟨b,off+I,none⟩) hb).trans c9
    have q1:(I:Int)<(LN:Int):=by omega
    rw [HI.out] at htt
    have HTT1:=Lib.hid htt
    clear htt hpe
    cases nb
    ·have hcd:=cand_end HX.out HTT1.out (.inl (by rw [HNN.out]))
     rw [HCN.out] at hcd
     have HCD:=Lib.hid (Prod.mk.inj hcd)
     clear hcd
     go_wp2
     go_meet
     exact ⟨.inl ⟨rfl,hIN,tt,by rw [HI.out];exact HTT1.out,HCD.out.1,HCD.out.2⟩,rfl⟩
    ·by_cases hlt:tt<nn
     ·have hcd:=cand_end HX.out HTT1.out (.inr (by rw [HNN.out];exact hlt))
      rw [HCN.out] at hcd
      have HCD:=Lib.hid (Prod.mk.inj hcd)
      clear hcd
      go_wp2
      go_meet
      exact ⟨.inl ⟨rfl,hIN,tt,by rw [HI.out];exact HTT1.out,HCD.out.1,HCD.out.2⟩,rfl⟩
     ·have hcd:=cand_in HX.out HTT1.out (by rw [HNN.out];rintro (h|h);cases h;exact hlt h)
      rw [HCN.out,HNN.out] at hcd
      have HCD:=Lib.hid (Prod.mk.inj hcd)
      clear hcd
      go_wp2
      go_meet
      exact ⟨.inr ⟨rfl,HCD.out.1,HCD.out.2⟩,rfl⟩
   ·have htt:(Zn.endsL rs z.es)[idx (Zn.endsL rs z.es) c]? =none:=List.getElem?_eq_none (by rw [← HI.out, ←HLN.out];omega)
    have hcd:=cand_none HX.out htt
    rw [HCN.out,HNN.out] at hcd
    have HCD:=Lib.hid (Prod.mk.inj hcd)
    clear hcd
    have q1:¬(I:Int)<(LN:Int):=by omega
    clear htt hpe
    go_wp2
    go_meet
    exact ⟨.inr ⟨rfl,HCD.out.1,HCD.out.2⟩,rfl⟩
  case rest=>
   obtain ⟨hcut,hwx⟩:=hcut
   subst hwx
   rcases hcut with ⟨rfl,hIN,tt,htt,rfl,rfl⟩|⟨rfl,rfl,rfl⟩
   ·obtain ⟨pp,cc,epp,hpe⟩:=HWr.out.ends.pkI
    cases epp
    obtain ⟨b,off,rfl,hb,c9⟩:=hpe I cn1 htt
    replace c9:=(hb4'.cell (p:=⟨b,off+I,none⟩) hb).trans c9
    clear htt hpe
    go_upto_region 7 with fail
    have hstop:true=false∨hi<cn1∨cn1≤c→R=0∧B=false:=fun h=>by
     have:=next_stop HC.out (by unfold stepN;rw [HCN.out];exact if_pos h)
     exact Prod.mk.inj this
    have HBr:=Lib.hid (HB2.out.trans ((bt hbr hb4').mono HB2.out.size))
    by_cases hh:hi<cn1
    ·obtain ⟨rfl,rfl⟩:=hstop (.inr (.inl hh))
     unfold hi at hh
     clear hstop
     go_wp2
     go_ret2
     exact ⟨rfl,HBr.out,(HT2.out.later (bt hbr hb4')).lt⟩
    by_cases hle:cn1≤c
    ·obtain ⟨rfl,rfl⟩:=hstop (.inr (.inr hle))
     unfold hi at hh
     clear hstop
     go_wp2
     go_ret2
     exact ⟨rfl,HBr.out,(HT2.out.later (bt hbr hb4')).lt⟩
    clear hstop
    have hs1:stepN rs z.es c=some cn1:=by
     unfold stepN
     rw [HCN.out]
     exact if_neg (by rintro (h|h|h);cases h;exact hh h;exact hle h)
    have HS1:=Lib.hid hs1
    have ct:=fun W (h:Below wr.heap.size wr W)=>COT.out W p _ _ (HWr.out.later h) (hTr.out.later h) (hBr.out.later h) cn1 (by omega) (by omega)
    have HLE:=Lib.hid (show c<cn1∧cn1≤hi by omega)
    unfold hi at hh
    by_cases hv:VV rs z.es cn1=V
    ·rw [decide_eq_true hv] at ct
     have HG:=Lib.hid (next_go HC.out HS1.out hv)
     have CT:=Lib.hid ct
     clear ct hs1 hv
     go_wp2_with (go_at_call 55;(with_reducible refine (CT.out _ hb4').mono ?_);rintro e w5 ⟨rfl,hb5⟩)
     go_roundw
     case rel=>exact ⟨cn1,rfl,⟨by have:=HLE.out;omega,HLE.out.2⟩,HG.out,bt (bt hbr hb4') hb5⟩
     case measure=>have:=HLE.out;simp only [intOf];omega
    ·rw [decide_eq_false hv] at ct
     obtain ⟨rfl,rfl⟩:=Prod.mk.inj (next_hit HC.out HS1.out hv)
     have CT:=Lib.hid ct
     clear ct hs1 hv
     go_wp2_with (go_at_call 55;(with_reducible refine (CT.out _ hb4').mono ?_);rintro e w5 ⟨rfl,hb5⟩)
     go_ret2
     exact ⟨rfl,bt HBr.out hb5,(HT2.out.later (bt (bt hbr hb4') hb5)).lt⟩
   ·go_upto_region 7 with fail
    have hstop:cn2=false∨hi<cn1∨cn1≤c→R=0∧B=false:=fun h=>by
     have:=next_stop HC.out (by unfold stepN;rw [HCN.out];exact if_pos h)
     exact Prod.mk.inj this
    have HBr:=Lib.hid (HB2.out.trans ((bt hbr hb4').mono HB2.out.size))
    cases cn2
    ·obtain ⟨rfl,rfl⟩:=hstop (.inl rfl)
     clear hstop
     go_wp2
     go_ret2
     exact ⟨rfl,HBr.out,(HT2.out.later (bt hbr hb4')).lt⟩
    by_cases hh:hi<cn1
    ·obtain ⟨rfl,rfl⟩:=hstop (.inr (.inl hh))
     unfold hi at hh
     clear hstop
     go_wp2
     go_ret2
     exact ⟨rfl,HBr.out,(HT2.out.later (bt hbr hb4')).lt⟩
    by_cases hle:cn1≤c
    ·obtain ⟨rfl,rfl⟩:=hstop (.inr (.inr hle))
     unfold hi at hh
     clear hstop
     go_wp2
     go_ret2
     exact ⟨rfl,HBr.out,(HT2.out.later (bt hbr hb4')).lt⟩
    clear hstop
    have hs1:stepN rs z.es c=some cn1:=by
     unfold stepN
     rw [HCN.out]
     exact if_neg (by rintro (h|h|h);cases h;exact hh h;exact hle h)
    have HS1:=Lib.hid hs1
    have ct:=fun W (h:Below wr.heap.size wr W)=>COT.out W p _ _ (HWr.out.later h) (hTr.out.later h) (hBr.out.later h) cn1 (by omega) (by omega)
    have HLE:=Lib.hid (show c<cn1∧cn1≤hi by omega)
    unfold hi at hh
    by_cases hv:VV rs z.es cn1=V
    ·rw [decide_eq_true hv] at ct
     have HG:=Lib.hid (next_go HC.out HS1.out hv)
     have CT:=Lib.hid ct
     clear ct hs1 hv
     go_wp2_with (go_at_call 55;(with_reducible refine (CT.out _ hb4').mono ?_);rintro e w5 ⟨rfl,hb5⟩)
     go_roundw
     case rel=>exact ⟨cn1,rfl,⟨by have:=HLE.out;omega,HLE.out.2⟩,HG.out,bt (bt hbr hb4') hb5⟩
     case measure=>have:=HLE.out;simp only [intOf];omega
    ·rw [decide_eq_false hv] at ct
     obtain ⟨rfl,rfl⟩:=Prod.mk.inj (next_hit HC.out HS1.out hv)
     have CT:=Lib.hid ct
     clear ct hs1 hv
     go_wp2_with (go_at_call 55;(with_reducible refine (CT.out _ hb4').mono ?_);rintro e w5 ⟨rfl,hb5⟩)
     go_ret2
     exact ⟨rfl,bt HBr.out hb5,(HT2.out.later (bt (bt hbr hb4') hb5)).lt⟩
end Chg
end
section
open Go.RowKit NB
namespace Chg
open Pt
def NextT (t:TabV) (zone s:Int) (r:Int×Bool):Prop:=((valV t zone s).2≠0∧r=(0,false))∨∃ z,zoneAt t zone=some z∧(lo≤s∧s≤hi)∧NextR t.rs z.es (VV t.rs z.es s) s r
theorem val_ok {t:TabV} (_ok:Ok t) {zone s:Int} (h:(valV t zone s).2=0):∃ z,zoneAt t zone=some z∧lo≤s∧s≤hi:=by
 cases hz:zoneAt t zone with
 |none=>rw [(val_none s hz).1] at h;exact absurd h (by decide)
 |some z=>
  by_cases ho:s<lo∨hi<s
  ·rw [(val_out hz ho).1] at h;exact absurd h (by decide)
  ·exact ⟨z,rfl,by omega,by omega⟩
theorem nextT_total {t:TabV} (ok:Ok t) (hc:(Chk.check t.rs).2=0) (zone s:Int):∃ r,NextT t zone s r:=by
 by_cases h:(valV t zone s).2=0
 ·obtain ⟨z,hz,h0,h1⟩:=val_ok ok h
  obtain ⟨r,hr⟩:=next_total (ok.good z (zone_mem hz).2.2.2) hc (VV t.rs z.es s) _ s h0 h1 (Nat.le_refl _)
  exact ⟨r,.inr ⟨z,hz,⟨h0,h1⟩,hr⟩⟩
 ·exact ⟨_,.inl ⟨h,rfl⟩⟩
theorem nextT_up {t:TabV} (ok:Ok t) (hc:(Chk.check t.rs).2=0) {zone s c:Int} (h:NextT t zone s (c,true)):s<c∧c≤hi:=by
 rcases h with ⟨_,h⟩|⟨z,hz,⟨h0,h1⟩,hr⟩
 ·cases h
 ·have:=(next_spec (ok.good z (zone_mem hz).2.2.2) hc hr h0 h1 rfl).1 rfl
  exact ⟨this.1,this.2.1⟩
inductive Runs (t:TabV) (zone:Int):Int→List Int→Prop
 |nil {s n:Int}:NextT t zone s (n,false)→Runs t zone s []
 |cons {s c:Int} {xs:List Int}:NextT t zone s (c,true)→Runs t zone c xs→Runs t zone s (c :: xs)
theorem runs_total {t:TabV} (ok:Ok t) (hc:(Chk.check t.rs).2=0) (zone:Int):∀ (n:Nat) (s:Int),(hi-s).toNat≤n→∃ xs,Runs t zone s xs
 |n,s,hn=>by
  obtain ⟨⟨c,b⟩,hr⟩:=nextT_total ok hc zone s
  cases b
  ·exact ⟨[],.nil hr⟩
  ·obtain ⟨a,b⟩:=nextT_up ok hc hr
   match n with
   |0=>omega
   |n+1=>
    obtain ⟨xs,hx⟩:=runs_total ok hc zone n c (by omega)
    exact ⟨c :: xs,.cons hr hx⟩
theorem NextA {w:World} {t:TabV} (ht:HoldsT w t) (ok:Ok t) (tb:Tab w) (hst:Sta w) (hc:(Chk.check t.rs).2=0) (zone s:Int) (hs:I64 s) {r:Int×Bool} (hr:NextT t zone s r):
 Calls Tryz.prog 17 #[.agg #[t.rv,t.zv,t.lv],.int .i64 zone,.int .i64 s] w fun e w'=>e= .returned (.tuple #[.int .i64 r.1,.bool r.2])∧Below w.heap.size w w'∧w.heap.size<w'.heap.size:=by
 rcases hr with ⟨h,rfl⟩|⟨z,hz,⟨h0,h1⟩,hr⟩
 ·exact NextNot ht ok tb zone s hs h
 ·obtain ⟨k,rfl⟩:∃ k:Nat,zone=(k:Int):=⟨zone.toNat,by have:=(zone_mem hz).1;omega⟩
  exact NextC ht ok tb hst hc k s hs hz h0 h1 hr
end Chg
end
section
open Go.RowKit Go.Shelf NB
attribute [local go_sem] Oper.semAt_some
namespace Chg
open Pt
def Kp (n₀ B:Nat) (c:Nat) (A C:World):Prop:=Below n₀ A C∧(∀ k,B≤k→k<B+3→C.heap[k]? =A.heap[k]?)∧C.heap[c]? =A.heap[c]?
structure Env (W:World) (B:Nat) (rv zv lv:Value) (zone s:Int):Prop where
 table:Box W B #[rv,zv,lv] 26
 zone:Box W (B+1) #[.int .i64 zone] 3
 from_:Box W (B+2) #[.int .i64 s] 2
theorem Env.keep {W V:World} {B:Nat} {rv zv lv:Value} {zone s:Int} (h:Env W B rv zv lv zone s) (hk:∀ k,B≤k→k<B+3→V.heap[k]? =W.heap[k]?):Env V B rv zv lv zone s:=
 ⟨(hk B (by omega) (by omega)).trans h.table,(hk (B+1) (by omega) (by omega)).trans h.zone,(hk (B+2) (by omega) (by omega)).trans h.from_⟩
theorem Env.later {W V:World} {B:Nat} {rv zv lv:Value} {zone s:Int} (h:Env W B rv zv lv zone s) (hb:Below W.heap.size W V):Env V B rv zv lv zone s:=
 ⟨h.table.later hb,h.zone.later hb,h.from_.later hb⟩
theorem All (p q r:Option Addr) (n1 n2 n3 c1 c2 c3:Nat) (zone s:Int) (w:World):Calls Tryz.prog 58 #[.agg #[.slice p n1 c1,.slice q n2 c2,.slice r n3 c3],.int .i64 zone,.int .i64 s] w fun e w'=>
 e= .returned (.func (.func 104) #[] #[.pointer (some ⟨w.heap.size,0,none⟩),.pointer (some ⟨w.heap.size+1,0,none⟩),.pointer (some ⟨w.heap.size+1+1,0,none⟩)])∧
  w'=((w.alloc (.cells #[.slice p n1 c1,.slice q n2 c2,.slice r n3 c3] 26)).alloc (.cells #[.int .i64 zone] 3)).alloc (.cells #[.int .i64 s] 2):=by
 go_enter Tryz.func58,Tryz.ntmps58
 go_wp2
 go_ret
 exact ⟨rfl,rfl⟩
def meas (m5 m6:Value):Nat:=match m6 with
 | .bool true=>(hi-intOf m5).toNat+1
 |_=>0
def At (t:TabV) (zone:Int) (m5 m6:Value):List Int→Prop
 | []=>m6= .bool false∧∃ x,m5= .int .i64 x
 |o :: os=>m6= .bool true∧m5= .int .i64 o∧I64 o∧o≤hi∧Runs t zone o os
theorem at_of {t:TabV} (ok:Ok t) (hc:(Chk.check t.rs).2=0) {zone s:Int} (h0:I64 s) {xs:List Int} (h:Runs t zone s xs):∃ r,NextT t zone s r∧At t zone (.int .i64 r.1) (.bool r.2) xs∧(r.2=true→s<r.1∧r.1≤hi):=by
 cases h with
 | @nil _ n h=>exact ⟨_,h,⟨rfl,_,rfl⟩,fun h=>by cases h⟩
 | @cons _ c xs h hr=>
   obtain ⟨a,b⟩:=nextT_up ok hc h
   exact ⟨_,h,⟨rfl,rfl,by unfold I64 at h0 ⊢;unfold hi at b;omega,b,hr⟩,fun _=>⟨a,b⟩⟩
variable {F:Fence} {n:Nat}
set_option maxRecDepth 100000 in
set_option maxHeartbeats 3200000 in
theorem all1 (h16:F.fn 17) (h64:F.fn 104) (hro:F.round=none) (hn:1≤n) (w0:World) (t:TabV) (ok:Ok t) (hc:(Chk.check t.rs).2=0) (zone s:Int) (hs:I64 s) (B:Nat) (xs:List Int) (W:World)
 (hN:∀ (V:World) (c:Int) (r:Int×Bool),Below w0.heap.size w0 V→I64 c→NextT t zone c r→CallsIn F (n-1) Tryz.prog 17 #[.agg #[t.rv,t.zv,t.lv],.int .i64 zone,.int .i64 c] V fun e V'=>e= .returned (.tuple #[.int .i64 r.1,.bool r.2])∧Below V.heap.size V V'∧V.heap.size<V'.heap.size)
 (hf:∃ p q r n1 n2 n3 c1 c2 c3,t.rv= .slice p n1 c1∧t.zv= .slice q n2 c2∧t.lv= .slice r n3 c3)
 (hx:Runs t zone s xs) (hB0:Below w0.heap.size w0 W) (_hw0:w0.heap.size≤B) (hE:Env W B t.rv t.zv t.lv zone s) (_hBW:B+3≤W.heap.size):
 Rng.Iter F n Tryz.prog 104 #[.pointer (some ⟨B,0,none⟩),.pointer (some ⟨B+1,0,none⟩),.pointer (some ⟨B+2,0,none⟩)] (fun o:Int=> #[.int .i64 o]) xs (Kp w0.heap.size B) W:=by
 intro lp J Jx hJg hJc hY hJ0
 refine callsIn_of_wp Tryz.func104 rfl h64 ?_ hro
 simp only [Tryz.ntmps104,List.size_toArray,List.length_cons,List.length_nil,Nat.reduceAdd,Nat.reduceSub,Array.replicate_succ,Array.replicate_zero,List.push_toArray,List.append_toArray,List.nil_append,List.cons_append]
 obtain ⟨p,q,r,n1,n2,n3,k1,k2,k3,f1,f2,f3⟩:=hf
 rw [f1,f2,f3] at hN hE
 have c0:=hE.table.cell
 have c1:=hE.zone.cell 0
 have c2:=hE.from_.cell 0
 have hn1:1≤n-1+1:=by omega
 obtain ⟨⟨r1,r2⟩,hr,hA,_⟩:=at_of ok hc hs hx
 have hN0:=hN W s _ hB0 hs hr
 dsimp only at hN0 hA
 simp only at hY
 have HY:=Lib.hid hY
 have HN:=Lib.hid hN
 have HJ0:=Lib.hid hJ0
 have HJg:=Lib.hid hJg
 have HE:=Lib.hid hE
 have Hb0:=Lib.hid hB0
 have HA:=Lib.hid hA
 have HOK:=Lib.hid (And.intro ok hc)
 clear hx hY hN hJ0 hJg hJc hE hB0 hA hr ok hc f1 f2 f3
 gi_wp2_with (gi_at_call 17;refine hN0.mono ?_;rintro e w1 ⟨rfl,hb1,hg1⟩;clear hN0)
 obtain ⟨c,hcc⟩:∃ c,c=W.heap.size:=⟨_,rfl⟩
 have HB1:=Lib.hid hb1
 clear hb1
 gi_loopw [5,6] (fun m5 m6 wr=>∃ (pre rest:List Int),xs=pre++rest∧Hid (At t zone m5 m6 rest)∧J c pre wr∧Env wr B (.slice p n1 k1) (.slice q n2 k2) (.slice r n3 k3) zone s∧Below w0.heap.size w0 wr∧c<wr.heap.size)
  (fun m5 m6 _=>meas m5 m6)
 case atStart=>
  exact ⟨[],xs,rfl,HA.out,HJg.out _ _ _ _ (HJ0.out c (by omega)) HB1.out,HE.out.later HB1.out,Hb0.out.trans (HB1.out.mono Hb0.out.size),by omega⟩
 case round=>
  obtain ⟨pre,rest,hx,hAt,hJ,hEn,hBw,hcw⟩:=hrel
  have d0:=hEn.table.cell
  have d1:=hEn.zone.cell 0
  cases rest with
  |nil=>
   obtain ⟨rfl,x5,rfl⟩:=hAt.out
   clear hAt
   gi_wp2
   refine ⟨fun _ h=>(by cases h),?_⟩
   gi_wp2
   go_end0
   exact ⟨⟨_,rfl⟩,.inl ⟨c,by omega,by rw [hx,List.append_nil];exact hJ⟩⟩
  |cons o os=>
   obtain ⟨rfl,rfl,ho,hoh,hrun⟩:=hAt.out
   clear hAt
   obtain ⟨fn,tmps,assign,body,hy,hR⟩:=HY.out c pre o wr (by omega) hcw hJ
   have HEn:=Lib.hid hEn
   have HBw:=Lib.hid hBw
   have HRun:=Lib.hid hrun
   clear hEn hBw hJ hrun
   try simp only at hy
   gi_wp2
   refine hR.mono ?_
   clear hR
   rintro e W3 (⟨rfl,hJ3,hk3⟩|⟨rfl,hJx3⟩)
   ·obtain ⟨hk1,hk2,hk4⟩:=hk3
    have hE3:=HEn.out.keep hk2
    have hB3:Below w0.heap.size w0 W3:=HBw.out.trans hk1
    have x0:=hE3.table.cell
    have x1:=hE3.zone.cell 0
    obtain ⟨⟨r1',r2'⟩,hr',hA',hup⟩:=at_of HOK.out.1 HOK.out.2 ho HRun.out
    have hN1:=HN.out W3 o _ hB3 ho hr'
    dsimp only at hN1 hA' hup
    have HB3:=Lib.hid hB3
    have HJ3:=Lib.hid hJ3
    have HE3:=Lib.hid hE3
    have HA3:=Lib.hid hA'
    have HUP:=Lib.hid hup
    have hc3:c<W3.heap.size:=by
     have:W3.heap[c]? =wr.heap[c]? :=hk4
     rw [Array.getElem?_eq_getElem hcw] at this
     exact (Array.getElem?_eq_some_iff.1 this).1
    clear hB3 hJ3 hE3 hk2 hk4 hk1 hA' hup hr'
    gi_wp2_with (gi_at_call 17;refine hN1.mono ?_;rintro e w4 ⟨rfl,hb4,hg4⟩;clear hN1)
    have HB4:=Lib.hid hb4
    go_roundw
    case rel=>
     exact ⟨pre++[o],os,by rw [hx];simp,HA3.out,HJg.out _ _ _ _ HJ3.out HB4.out,HE3.out.later HB4.out,HB3.out.trans (HB4.out.mono HB3.out.size),by omega⟩
    case measure=>
     cases r2'
     ·show 0<_
      exact Nat.succ_pos _
     ·have:=HUP.out rfl
      show (hi-r1').toNat+1<(hi-o).toNat+1
      omega
   ·gi_wp2
    go_end0
    exact ⟨⟨_,rfl⟩,.inr ⟨pre++[o],⟨os,by rw [hx];simp⟩,hJx3⟩⟩
end Chg
end
end Go.Proofs.YtgmfojgnjdpofaaGreatDoor
