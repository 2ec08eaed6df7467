import Derived.Test.YtgmfojgnjdpofaaGreatDoorH35
namespace Go.Proofs.YtgmfojgnjdpofaaGreatDoor
open Go.Proofs.Tryz
open Go.RowKit NB Nxt
namespace Frc
def prevR (l:List RuleV) (e:EraV) (F v:ValV):Option OccV→Option OccV
 |some x=>Occ.nextO l e.rules x
 |none=>if F=v then none else Occ.nextO l e.rules startO
set_option maxHeartbeats 2000000 in
set_option maxRecDepth 100000 in
theorem prev0 {w:World} {r:Value} {l:List RuleV} (hr:Holds w r l) (e:EraV) (he:e.Fit) (t:Int) (ht:Tab w) (h:¬(Er.rightB e=true∧e.kind=2)):
 Calls prog 56 #[r,.agg e.cells.toArray,.int .i64 t] w fun x w'=>x=.returned (.tuple #[.int .i64 0,.bool false])∧Below w.heap.size w w':=by
 have cr:=fun W (h:Tab W)=>Er.Right e he W h;have HT:=kj ht;obtain ⟨rp,rc,rfl⟩:=hr.form;cases hR:Er.rightB e
 ·rw [hR] at cr;unfold EraV.cells at *;have Cr:=kj cr;clear cr hr ht h;go_enter func56,ntmps56
  go_wp2_with (go_at_call 96;(with_reducible refine (Cr.out _ ?_).mono ?_);(· exact HT.out.later bcq);rintro e w1 ⟨rfl,hb1⟩;obtain ⟨hc1_0,hf1_0,hz1_0⟩:=bcs hb1 (w.heap.size))
  go_ret2;exact ⟨rfl,bcq⟩
 ·have hk:¬e.kind=2:=fun hk=>h ⟨hR,hk⟩;rw [hR] at cr;unfold EraV.cells at *;have Cr:=kj cr;clear cr hr ht h;go_enter func56,ntmps56
  go_wp2_with (go_at_call 96;(with_reducible refine (Cr.out _ ?_).mono ?_);(· exact HT.out.later bcq);rintro e w1 ⟨rfl,hb1⟩;obtain ⟨hc1_0,hf1_0,hz1_0⟩:=bcs hb1 (w.heap.size))
  go_ret2;exact ⟨rfl,bcq⟩
set_option maxHeartbeats 3200000 in
set_option maxRecDepth 100000 in
theorem prev1 {w:World} {r:Value} {l:List RuleV} (hr:Holds w r l) (e:EraV) (he:e.Fit) (t:Int) (ht:Tab w) (hst:Sta w) (hs:∀ x∈l,x.letter.size≤1000000) (hn:l.length≤100000) (hR:Er.rightB e=true) (hk:e.kind=2):
 Calls prog 56 #[r,.agg e.cells.toArray,.int .i64 t] w fun x w'=>x=.returned (.tuple #[.int .i64 (tell l e (prevF l e t)).1,.bool (tell l e (prevF l e t)).2])∧Below w.heap.size w w':=by
 have hne:=rules_ne hR hk;have hm:Chn.may e.off=true:=Chn.may_iff.2 (Unt.right_spec hR).1;have cr:=fun W (h:Tab W)=>Er.Right e he W h;rw [hR] at cr;have co:=fun W (h:Holds W r l) (ht:Tab W)=>of1 e he h ht hs hn;have ca:=fun W b g (h:View W b l e r g) (h':Tab W)=>atW h he h' t hn;have cq:=fun W b g (h:View W b l e r g) v=>others h hn v;have cf:=fun W b g (h:View W b l e r g) (h':Tab W)=>first h he h' hn;unfold atR at ca;rw [if_pos hk] at ca;obtain ⟨v,hv⟩:∃ v,v=stateV l e t:=⟨_,rfl⟩;obtain ⟨F,hF⟩:∃ F,F=firstV l e:=⟨_,rfl⟩;rw [← hv] at ca;rw [← hF] at cf;have hall:∀ fr o,Occ.nextO l e.rules fr=some o→Occ.All l e.rules l.length o:=fun fr o h=>by
  have hb:=Occ.best_next l e.rules fr;rw [h] at hb;exact hb.1
 have ci0:=fun W b g (h:View W b l e r g) o=>instant0 h o;have ci1:=fun W b g (h:View W b l e r g) o (ho:Occ.All l e.rules l.length o)=>by have:=instant1 h o;rw [inst_all hm ho] at this;exact this
 have cx:=fun W (h:Holds W r l) fr=>NxH.Next h e.rules fr;obtain ⟨R,hRR⟩:∃ R,R=prevF l e t:=⟨_,rfl⟩;rw [← hRR];unfold prevF at hRR;rw [← hv, ←hF] at hRR;have HH:=kj hr;have HT:=kj ht;have HS:=kj hst;obtain ⟨rp,rc,rfl⟩:=hr.form;cases hlp:lastP l e t with
 |none=>
  rw [hlp] at hRR ca;replace hRR:R=none:=hRR;subst hRR;unfold EraV.cells ValV.cells OccV.cells at *;simp only [hk] at cr co;have Cr:=kj cr;have Co:=kj co;have Ca:=kj ca;clear cr co ca cq cf cx ci0 ci1 hr ht hst hs hv hF hall hne hm hlp;generalize hnl:l.length=n at *;clear hnl;rw [hk];go_enter func56,ntmps56
  go_wp2_with (first
   |(go_at_call 96;(with_reducible refine (Cr.out _ ?_).mono ?_);(· exact HT.out.later bcq);rintro e w1 ⟨rfl,hb1⟩;obtain ⟨hc1_0,hf1_0,hz1_0⟩:=bcs hb1 (w.heap.size))
   |(go_at_call 97;(with_reducible refine (Co.out _ ?_ ?_).mono ?_);(· exact HH.out.later bcq);(· exact HT.out.later bcq);rintro z w2 ⟨b,g,rfl,hvw,hb2⟩;obtain ⟨hc2_0,hf2_0,hz2_0⟩:=bcs hb2 (w.heap.size))
   |(go_at_call 98;(with_reducible refine (Ca.out _ _ _ hvw ?_).mono ?_);(· exact HT.out.later bcq);rintro z w3 ⟨rfl,hb3⟩))
  go_ret2;exact ⟨rfl,bcq⟩
 |some fr=>
  rw [hlp] at hRR ca;obtain ⟨P,hP⟩:∃ P,P=Occ.prevO (othX l e v) e.rules fr:=⟨_,rfl⟩;have hPv:Occ.prevO (othV l e v) e.rules fr=P:=by rw [hP,prev_othX hne]
  have cp:=fun W u (h:Holds W u (othX l e v))=>NxH.Prev h e.rules fr;rw [← hP] at cp;replace hRR:R=prevR l e F v P:=by rw [← hPv];exact hRR
  unfold EraV.cells ValV.cells OccV.cells at *;simp only [hk] at cr co;have Cr:=kj cr;have Co:=kj co;have Ca:=kj ca;have Cq:=kj cq;have Cf:=kj cf;have Cx:=kj cx;have Cp:=kj cp;have Ci0:=kj ci0;have Ci1:=kj ci1;have HAll:=kj hall;clear cr co ca cq cf cx cp ci0 ci1 hr ht hst hs hv hF hall hne hm hlp hP hPv;generalize hnl:l.length=n at *;clear hnl;rw [hk];go_enter func56,ntmps56
  go_upto_region 4 with (first
   |(go_at_call 96;(with_reducible refine (Cr.out _ ?_).mono ?_);(· exact HT.out.later bcq);rintro e w1 ⟨rfl,hb1⟩;obtain ⟨hc1_0,hf1_0,hz1_0⟩:=bcs hb1 (w.heap.size))
   |(go_at_call 97;(with_reducible refine (Co.out _ ?_ ?_).mono ?_);(· exact HH.out.later bcq);(· exact HT.out.later bcq);rintro z w2 ⟨b,g,rfl,hvw,hb2⟩;obtain ⟨hc2_0,hf2_0,hz2_0⟩:=bcs hb2 (w.heap.size)))
  have b4:Box w2 w.heap.size #[.int .i64 e.off,.int .i64 2,.int .i64 e.save,.string e.rules,.string e.format,.bool e.u.has,.int .i64 e.u.year,.int .i64 e.u.month,.int .i64 e.u.kind,.int .i64 e.u.week,.int .i64 e.u.day,.int .i64 e.u.sec,.int .i64 e.u.base] 53:=bxq;have hbel:Below w.heap.size w w2:=bcq;have HVw:=kj hvw;have HBL:=kj hbel;have HB4:=kj b4;clear hvw hbel b4 hb2 hc2_0 hf2_0 hz2_0 hb1 hc1_0 hf1_0 hz1_0
  go_upto_region 7 with (go_at_call 98;(with_reducible refine (Ca.out _ _ _ HVw.out ?_).mono ?_);(· exact HT.out.later HBL.out);rintro z w3 ⟨rfl,hb3⟩)
  have b9:Box ((w3.alloc (.cells #[.int .i64 v.off,.int .i64 v.save,.string v.abbr] 30)).alloc (.cells #[.int .i64 fr.rule,.int .i64 fr.year,.int .i64 fr.nom] 156)) w3.heap.size #[.int .i64 v.off,.int .i64 v.save,.string v.abbr] 30:=Box.old (Box.new _ _ _);have b10:Box ((w3.alloc (.cells #[.int .i64 v.off,.int .i64 v.save,.string v.abbr] 30)).alloc (.cells #[.int .i64 fr.rule,.int .i64 fr.year,.int .i64 fr.nom] 156)) (w3.heap.size+1) #[.int .i64 fr.rule,.int .i64 fr.year,.int .i64 fr.nom] 156:=boxS1 _ _ _ _;have b4:Box ((w3.alloc (.cells #[.int .i64 v.off,.int .i64 v.save,.string v.abbr] 30)).alloc (.cells #[.int .i64 fr.rule,.int .i64 fr.year,.int .i64 fr.nom] 156)) w.heap.size #[.int .i64 e.off,.int .i64 2,.int .i64 e.save,.string e.rules,.string e.format,.bool e.u.has,.int .i64 e.u.year,.int .i64 e.u.month,.int .i64 e.u.kind,.int .i64 e.u.week,.int .i64 e.u.day,.int .i64 e.u.sec,.int .i64 e.u.base] 53:=Box.old (Box.old (HB4.out.later hb3));have hX:Below w2.heap.size w2 ((w3.alloc (.cells #[.int .i64 v.off,.int .i64 v.save,.string v.abbr] 30)).alloc (.cells #[.int .i64 fr.rule,.int .i64 fr.year,.int .i64 fr.nom] 156)):=bcq;have hw3:w.heap.size<w3.heap.size:=Nat.lt_of_lt_of_le HB4.out.lt hb3.size;have hw2:w2.heap.size≤w3.heap.size:=hb3.size;generalize ((w3.alloc (.cells #[.int .i64 v.off,.int .i64 v.save,.string v.abbr] 30)).alloc (.cells #[.int .i64 fr.rule,.int .i64 fr.year,.int .i64 fr.nom] 156))=X at *;obtain ⟨p9,hp9⟩:∃ p,p=w3.heap.size:=⟨_,rfl⟩;rw [← hp9] at b9 b10 hw3 hw2 ⊢;obtain ⟨p10,hp10⟩:∃ p,p=p9+1:=⟨_,rfl⟩;rw [← hp10] at b10 ⊢;have hne9:p9<p10:=by omega
  have hVX:=HVw.out.later hX;have hWX:=HBL.out.trans (hX.mono HBL.out.size);have HVX:=kj hVX;have HX2:=kj hX;have HWX:=kj hWX;have Hb4:=kj b4;have Hb9:=kj b9;have Hb10:=kj b10;have k4:=b4.cell;have l4:=b4.lt;have k9:=b9.cell;have l9:=b9.lt;have k10:=b10.cell;have l10:=b10.lt;have f10:=b10.free;clear b9 b10 b4 hX hp9 hp10 hVX hWX hb3;rcases P with _|x
  case none=>
   have cp:∀ W u,Holds W u (othX l e v)→Calls prog 102 #[u,.string e.rules,.agg #[.int .i64 fr.rule,.int .i64 fr.year,.int .i64 fr.nom]] W fun z w'=>z=.returned (.tuple #[.agg #[.int .i64 0,.int .i64 0,.int .i64 0],.bool false])∧Below W.heap.size W w':=fun W u h=>Cp.out W u h;have CP:=kj cp;clear cp Cp
   go_cut [11] from 32 to 41 (fun s11 wx=>s11=.bool false∧Box wx w.heap.size #[.int .i64 e.off,.int .i64 2,.int .i64 e.save,.string e.rules,.string e.format,.bool e.u.has,.int .i64 e.u.year,.int .i64 e.u.month,.int .i64 e.u.kind,.int .i64 e.u.week,.int .i64 e.u.day,.int .i64 e.u.sec,.int .i64 e.u.base] 53∧Box wx p9 #[.int .i64 v.off,.int .i64 v.save,.string v.abbr] 30∧Box wx p10 #[.int .i64 0,.int .i64 0,.int .i64 0] 156∧Below w2.heap.size w2 wx)
   case first=>
    go_region_with (first
     |(go_at_call 101;(with_reducible refine (Cq.out _ _ _ (HVX.out.later ?_) v).mono ?_);(· exact bcq);rintro z w4 ⟨u4,rfl,hvo,hb4⟩;obtain ⟨hc4_0,hf4_0,hz4_0⟩:=bcs hb4 (w.heap.size);obtain ⟨hc4_1,hf4_1,hz4_1⟩:=bcs hb4 (p9);obtain ⟨hc4_2,hf4_2,hz4_2⟩:=bcs hb4 (p10))
     |(go_at_call 102;(with_reducible refine (CP.out _ _ ?_).mono ?_);(· exact hvo.later bcq);rintro z w5 ⟨rfl,hb5⟩;obtain ⟨hc5_0,hf5_0,hz5_0⟩:=bcs hb5 (w.heap.size);obtain ⟨hc5_1,hf5_1,hz5_1⟩:=bcs hb5 (p9);obtain ⟨hc5_2,hf5_2,hz5_2⟩:=bcs hb5 (p10)))
    all_goals
     have hX5:Below X.heap.size X w5:=bcq;go_wp2;go_meet;exact ⟨rfl,(Hb4.out.later hX5).other (by omega) |>.other (by omega) |>.other (by omega),(Hb9.out.later hX5).other (by omega) |>.other (by omega) |>.other (by omega),Box.set3 (Hb10.out.later hX5),bset (bset (bset (HX2.out.trans (hX5.mono HX2.out.size)) (by omega)) (by omega)) (by omega)⟩
   case rest=>
    obtain ⟨rfl,b4,b9,b10,hbel⟩:=hcut;have HB4c:=kj b4;have HB10c:=kj b10;have hW:Below w.heap.size w wc:=HBL.out.trans (hbel.mono HBL.out.size);have k4:=b4.cell;have l4:=b4.lt;have k9:=b9.cell;have l9:=b9.lt;have k10:=b10.cell;have l10:=b10.lt;have f10:=b10.free;have gS:=(HS.out.later hW).cell;have lS:=(HS.out.later hW).lt;have HW:=kj hW;have H2:=kj hbel;clear b4 b9 b10 hbel hW
    by_cases hF:F=v
    ·rw [show prevR l e F v none=none by unfold prevR;rw [if_pos hF]] at hRR;subst hRR;subst hF;have cf:∀ W b g,View W b l e (.slice rp n rc) g→Tab W→Calls prog 103 #[.pointer (some ⟨b,0,none⟩)] W fun z w'=>z=.returned (.agg #[.int .i64 F.off,.int .i64 F.save,.string F.abbr])∧Below W.heap.size W w':=fun W b g h h'=>Cf.out W b g h h';have CF:=kj cf;clear cf Cf
     go_upto_region 8 with fail
     go_region_with ((go_at_call 103;(with_reducible refine (CF.out _ _ _ (HVw.out.later ?_) ?_).mono ?_);(· have hb2:=H2.out;exact bcq);(· exact HT.out.later (bt HW.out bcq));rintro z w6 ⟨rfl,hb6⟩;obtain ⟨hc6_0,hf6_0,hz6_0⟩:=bcs hb6 (w.heap.size);obtain ⟨hc6_1,hf6_1,hz6_1⟩:=bcs hb6 (p9);obtain ⟨hc6_2,hf6_2,hz6_2⟩:=bcs hb6 (p10)))
     all_goals
      go_wp2;have hbw:=HW.out;go_ret2;exact ⟨rfl,bcq⟩
    ·rw [show prevR l e F v none=Occ.nextO l e.rules startO by unfold prevR;rw [if_neg hF]] at hRR;have hcs:F.off≠v.off∨(F.off=v.off∧F.save≠v.save)∨(F.off=v.off∧F.save=v.save∧F.abbr≠v.abbr):=by
      obtain ⟨yo,ys,ya⟩:=F;obtain ⟨vo,vs,va⟩:=v;simp only [ValV.mk.injEq,not_and] at hF ⊢
      by_cases h1:yo=vo
      ·by_cases h2:ys=vs
       ·exact .inr (.inr ⟨h1,h2,hF h1 h2⟩)
       ·exact .inr (.inl ⟨h1,h2⟩)
      ·exact .inl h1
     have hab:∀ W b g,View W b l e (.slice rp n rc) g→Tab W→Calls prog 103 #[.pointer (some ⟨b,0,none⟩)] W fun z w'=>z=.returned (.agg #[.int .i64 F.off,.int .i64 F.save,.string F.abbr])∧Below W.heap.size W w':=fun W b g h h'=>Cf.out W b g h h';have CF:=kj hab;clear hab Cf hF
     go_upto_region 8 with fail
     go_cut [42] from 43 to 50 (fun s42 wx=>s42=.bool false∧Box wx w.heap.size #[.int .i64 e.off,.int .i64 2,.int .i64 e.save,.string e.rules,.string e.format,.bool e.u.has,.int .i64 e.u.year,.int .i64 e.u.month,.int .i64 e.u.kind,.int .i64 e.u.week,.int .i64 e.u.day,.int .i64 e.u.sec,.int .i64 e.u.base] 53∧Box wx p10 #[.int .i64 0,.int .i64 0,.int .i64 0] 156∧Below wc.heap.size wc wx)
     case first=>
      have b4:Box wc w.heap.size #[.int .i64 e.off,.int .i64 2,.int .i64 e.save,.string e.rules,.string e.format,.bool e.u.has,.int .i64 e.u.year,.int .i64 e.u.month,.int .i64 e.u.kind,.int .i64 e.u.week,.int .i64 e.u.day,.int .i64 e.u.sec,.int .i64 e.u.base] 53:=HB4c.out;have b10:Box wc p10 #[.int .i64 0,.int .i64 0,.int .i64 0] 156:=HB10c.out;rcases hcs with h1|⟨h1,h2⟩|⟨h1,h2,h3⟩
      all_goals
       first
        |(have e1:=str_ne h3;rw [h1,h2] at CF;clear h1 h2 h3)
        |(have e1:(F.save==v.save)=false:=(by simpa using h2);rw [h1] at CF;clear h1 h2)
        |(have e1:(F.off==v.off)=false:=by simpa using h1)
       go_region_with ((go_at_call 103;(with_reducible refine (CF.out _ _ _ (HVw.out.later ?_) ?_).mono ?_);(· have hb2:=H2.out;exact bcq);(· exact HT.out.later (bt HW.out bcq));rintro z w6 ⟨rfl,hb6⟩;obtain ⟨hc6_0,hf6_0,hz6_0⟩:=bcs hb6 (w.heap.size);obtain ⟨hc6_1,hf6_1,hz6_1⟩:=bcs hb6 (p9);obtain ⟨hc6_2,hf6_2,hz6_2⟩:=bcs hb6 (p10)))
       all_goals
        go_wp2;go_meet;exact ⟨rfl,bxq,bxq,bcq⟩
     case rest=>
      clear k4 l4 k9 l9 k10 l10 f10 hcs CF;rename_i wd;obtain ⟨rfl,b4,b10,hbd⟩:=hcut;have k4:=b4.cell;have l4:=b4.lt;have k10:=b10.cell;have l10:=b10.lt;have f10:=b10.free;have gS:=(HS.out.later (bt HW.out hbd)).cell;have lS:=(HS.out.later (bt HW.out hbd)).lt;clear b4 b10;rcases hN:Occ.nextO l e.rules startO with _|o
      all_goals
       rw [hN] at hRR;subst hRR
      case' none=>
       have cx:∀ W,Holds W (.slice rp n rc) l→Calls prog 100 #[.slice rp n rc,.string e.rules,.agg #[.int .i64 (-1),.int .i64 0,.int .i64 (-2192387558400)]] W fun z w'=>z=.returned (.tuple #[.agg #[.int .i64 0,.int .i64 0,.int .i64 0],.bool false])∧Below W.heap.size W w':=fun W h=>by have:=Cx.out W h startO;rw [hN] at this;exact this
       have ci:∀ W b g,View W b l e (.slice rp n rc) g→Calls prog 99 #[.pointer (some ⟨b,0,none⟩),.agg #[.int .i64 0,.int .i64 0,.int .i64 0],.bool false] W fun z w'=>z=.returned (.tuple #[.int .i64 0,.bool false])∧Below W.heap.size W w':=fun W b g h=>Ci0.out W b g h ⟨0,0,0⟩
      case' some=>
       have cx:∀ W,Holds W (.slice rp n rc) l→Calls prog 100 #[.slice rp n rc,.string e.rules,.agg #[.int .i64 (-1),.int .i64 0,.int .i64 (-2192387558400)]] W fun z w'=>z=.returned (.tuple #[.agg #[.int .i64 o.rule,.int .i64 o.year,.int .i64 o.nom],.bool true])∧Below W.heap.size W w':=fun W h=>by have:=Cx.out W h startO;rw [hN] at this;exact this
       obtain ⟨io,hio⟩:∃ io,io=Chn.inst l e.rules e.off o:=⟨_,rfl⟩;have ci:∀ W b g,View W b l e (.slice rp n rc) g→Calls prog 99 #[.pointer (some ⟨b,0,none⟩),.agg #[.int .i64 o.rule,.int .i64 o.year,.int .i64 o.nom],.bool true] W fun z w'=>z=.returned (.tuple #[.int .i64 io,.bool true])∧Below W.heap.size W w':=fun W b g h=>by rw [hio];exact Ci1.out W b g h o (HAll.out _ _ hN)
       have HIO:=kj hio;clear hio
      all_goals
       have CX:=kj cx;have CI:=kj ci;clear cx ci Cx Ci0 Ci1 hN HAll;have hb2:=H2.out;have hbw:=HW.out
       go_wp2_with (first
        |(go_at_call 100;(with_reducible refine (CX.out _ ?_).mono ?_);(· exact HH.out.later bcq);rintro z w7 ⟨rfl,hb7⟩)
        |(go_at_call 99;(with_reducible refine (CI.out _ _ _ (HVw.out.later ?_)).mono ?_);(· exact bcq);rintro z w8 ⟨rfl,hb8⟩))
       go_ret2
       first
        |exact ⟨rfl,bcq⟩
        |exact ⟨by rw [HIO.out];rfl,bcq⟩
  case some=>
   have cp:∀ W u,Holds W u (othX l e v)→Calls prog 102 #[u,.string e.rules,.agg #[.int .i64 fr.rule,.int .i64 fr.year,.int .i64 fr.nom]] W fun z w'=>z=.returned (.tuple #[.agg #[.int .i64 x.rule,.int .i64 x.year,.int .i64 x.nom],.bool true])∧Below W.heap.size W w':=fun W u h=>Cp.out W u h;have CP:=kj cp;clear cp Cp
   go_cut [11] from 32 to 41 (fun s11 wx=>s11=.bool true∧Box wx w.heap.size #[.int .i64 e.off,.int .i64 2,.int .i64 e.save,.string e.rules,.string e.format,.bool e.u.has,.int .i64 e.u.year,.int .i64 e.u.month,.int .i64 e.u.kind,.int .i64 e.u.week,.int .i64 e.u.day,.int .i64 e.u.sec,.int .i64 e.u.base] 53∧Box wx p9 #[.int .i64 v.off,.int .i64 v.save,.string v.abbr] 30∧Box wx p10 #[.int .i64 x.rule,.int .i64 x.year,.int .i64 x.nom] 156∧Below w2.heap.size w2 wx)
   case first=>
    go_region_with (first
     |(go_at_call 101;(with_reducible refine (Cq.out _ _ _ (HVX.out.later ?_) v).mono ?_);(· exact bcq);rintro z w4 ⟨u4,rfl,hvo,hb4⟩;obtain ⟨hc4_0,hf4_0,hz4_0⟩:=bcs hb4 (w.heap.size);obtain ⟨hc4_1,hf4_1,hz4_1⟩:=bcs hb4 (p9);obtain ⟨hc4_2,hf4_2,hz4_2⟩:=bcs hb4 (p10))
     |(go_at_call 102;(with_reducible refine (CP.out _ _ ?_).mono ?_);(· exact hvo.later bcq);rintro z w5 ⟨rfl,hb5⟩;obtain ⟨hc5_0,hf5_0,hz5_0⟩:=bcs hb5 (w.heap.size);obtain ⟨hc5_1,hf5_1,hz5_1⟩:=bcs hb5 (p9);obtain ⟨hc5_2,hf5_2,hz5_2⟩:=bcs hb5 (p10)))
    all_goals
     have hX5:Below X.heap.size X w5:=bcq;go_wp2;go_meet;exact ⟨rfl,(Hb4.out.later hX5).other (by omega) |>.other (by omega) |>.other (by omega),(Hb9.out.later hX5).other (by omega) |>.other (by omega) |>.other (by omega),Box.set3 (Hb10.out.later hX5),bset (bset (bset (HX2.out.trans (hX5.mono HX2.out.size)) (by omega)) (by omega)) (by omega)⟩
   case rest=>
    obtain ⟨rfl,b4,b9,b10,hbel⟩:=hcut;have HB4c:=kj b4;have HB10c:=kj b10;have hW:Below w.heap.size w wc:=HBL.out.trans (hbel.mono HBL.out.size);have k4:=b4.cell;have l4:=b4.lt;have k9:=b9.cell;have l9:=b9.lt;have k10:=b10.cell;have l10:=b10.lt;have f10:=b10.free;have gS:=(HS.out.later hW).cell;have lS:=(HS.out.later hW).lt;have HW:=kj hW;have H2:=kj hbel;clear b4 b9 b10 hbel hW;have hRR':R=Occ.nextO l e.rules x:=hRR;clear hRR;have hRR:=hRR';clear hRR' Cf
    go_upto_region 8 with fail
    go_quiet (fail)
    rcases hN:Occ.nextO l e.rules x with _|o
    all_goals
     rw [hN] at hRR;subst hRR
    case' none=>
     have cx:∀ W,Holds W (.slice rp n rc) l→Calls prog 100 #[.slice rp n rc,.string e.rules,.agg #[.int .i64 x.rule,.int .i64 x.year,.int .i64 x.nom]] W fun z w'=>z=.returned (.tuple #[.agg #[.int .i64 0,.int .i64 0,.int .i64 0],.bool false])∧Below W.heap.size W w':=fun W h=>by have:=Cx.out W h x;rw [hN] at this;exact this
     have ci:∀ W b g,View W b l e (.slice rp n rc) g→Calls prog 99 #[.pointer (some ⟨b,0,none⟩),.agg #[.int .i64 0,.int .i64 0,.int .i64 0],.bool false] W fun z w'=>z=.returned (.tuple #[.int .i64 0,.bool false])∧Below W.heap.size W w':=fun W b g h=>Ci0.out W b g h ⟨0,0,0⟩
    case' some=>
     have cx:∀ W,Holds W (.slice rp n rc) l→Calls prog 100 #[.slice rp n rc,.string e.rules,.agg #[.int .i64 x.rule,.int .i64 x.year,.int .i64 x.nom]] W fun z w'=>z=.returned (.tuple #[.agg #[.int .i64 o.rule,.int .i64 o.year,.int .i64 o.nom],.bool true])∧Below W.heap.size W w':=fun W h=>by have:=Cx.out W h x;rw [hN] at this;exact this
     obtain ⟨io,hio⟩:∃ io,io=Chn.inst l e.rules e.off o:=⟨_,rfl⟩;have ci:∀ W b g,View W b l e (.slice rp n rc) g→Calls prog 99 #[.pointer (some ⟨b,0,none⟩),.agg #[.int .i64 o.rule,.int .i64 o.year,.int .i64 o.nom],.bool true] W fun z w'=>z=.returned (.tuple #[.int .i64 io,.bool true])∧Below W.heap.size W w':=fun W b g h=>by rw [hio];exact Ci1.out W b g h o (HAll.out _ _ hN)
     have HIO:=kj hio;clear hio
    all_goals
     have CX:=kj cx;have CI:=kj ci;clear cx ci Cx Ci0 Ci1 hN HAll;have hb2:=H2.out;have hbw:=HW.out
     go_wp2_with (first
      |(go_at_call 100;(with_reducible refine (CX.out _ ?_).mono ?_);(· exact HH.out.later bcq);rintro z w7 ⟨rfl,hb7⟩)
      |(go_at_call 99;(with_reducible refine (CI.out _ _ _ (HVw.out.later ?_)).mono ?_);(· exact bcq);rintro z w8 ⟨rfl,hb8⟩))
     go_ret2
     first
      |exact ⟨rfl,bcq⟩
      |exact ⟨by rw [HIO.out];rfl,bcq⟩
theorem Prev {w:World} {r:Value} {l:List RuleV} (hr:Holds w r l) (e:EraV) (he:e.Fit) (t:Int) (ht:Tab w) (hst:Sta w) (hs:∀ x∈l,x.letter.size≤1000000) (hn:l.length≤100000):
 Calls prog 56 #[r,.agg e.cells.toArray,.int .i64 t] w fun x w'=>x=.returned (.tuple #[.int .i64 (prevV l e t).1,.bool (prevV l e t).2])∧Below w.heap.size w w':=by
 unfold prevV
 by_cases h:Er.rightB e=true∧e.kind=2
 ·rw [if_pos h];exact prev1 hr e he t ht hst hs hn h.1 h.2
 ·rw [if_neg h];exact prev0 hr e he t ht h
end Frc
end Go.Proofs.YtgmfojgnjdpofaaGreatDoor
