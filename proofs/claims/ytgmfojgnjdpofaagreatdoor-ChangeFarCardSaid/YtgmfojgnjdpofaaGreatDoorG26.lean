import Derived.Test.YtgmfojgnjdpofaaGreatDoorG23
import Derived.Test.YtgmfojgnjdpofaaGreatDoorG25
import Derived.Test.YtgmfojgnjdpofaaGreatDoorG21
namespace Go.Proofs.YtgmfojgnjdpofaaGreatDoor
section
open Go.RowKit NB
namespace RRe
open Rd RWd RNu RAm RDs RAt RYe RRu
theorem own_box {W:World} {base b n sz:Nat} {e t:TypeId} {v:Value} {xs:List Value} {cs:Array Value} (h:W.ownsRow base e sz v n xs) (hb:Box W b cs t) (he:e≠t):v.ownBlock≠some b:=by
 rcases h.2 with ⟨rfl,_⟩|⟨g,cap,cur,rfl,_,hg,_⟩
 ·intro h;cases h
 ·intro h
  cases h
  have hb:W.heap[g]? =some (.cells cs t):=hb
  rw [hb] at hg
  cases hg
  exact he rfl
theorem box_grown {W U:World} {base b n sz:Nat} {e t:TypeId} {v:Value} {xs:List Value} {cs:Array Value} (hb:Box W b cs t) (h:W.ownsRow base e sz v n xs) (hg:W.grownBy U v.ownBlock) (he:e≠t):Box U b cs t:=
 (hg.block b hb.lt (fun e'=>own_box h hb he e'.symm)).trans hb
theorem kind_at {e:EraV} (h:Er.rightB e=true):0≤e.kind∧e.kind<3∧([⟨#[45]⟩,ofL (textA e.save),e.rules]:List ByteArray)[e.kind.toNat]? =some (kindE e):=by
 obtain ⟨_,_,_,h⟩:=era_of h
 unfold kindE
 rcases h with ⟨k,_⟩|⟨k,_⟩|⟨k,_⟩
 ·rw [k];exact ⟨by decide,by decide,rfl⟩
 ·rw [k];exact ⟨by decide,by decide,rfl⟩
 ·rw [k];exact ⟨by decide,by decide,rfl⟩
theorem save_small {e:EraV} (h:Er.rightB e=true): -10800≤e.save∧e.save≤10800:=by
 obtain ⟨_,_,_,h⟩:=era_of h
 omega
set_option maxRecDepth 100000 in
set_option maxHeartbeats 6400000 in
theorem Fields (e:EraV) (hfit:e.Fit) (he:Er.rightB e=true) (w:World):
 Calls Tryz.prog 147 #[.agg e.cells.toArray] w fun x w'=>∃ v,x= .returned (.tuple #[v,.int .i64 0])∧HoldsS w' v (fieldsE e)∧Below w.heap.size w w':=by
 obtain ⟨⟨h1,h2⟩,h3,h4,_⟩:=era_of he
 obtain ⟨k1,k2,k3⟩:=kind_at he
 obtain ⟨s1,s2⟩:=save_small he
 have c0:=fun W=>REr.Right e hfit W
 rw [he] at c0
 have c1:=fun W=>AText e.off (by omega) (by omega) W
 have c2:=fun W=>AText e.save (by omega) (by omega) W
 obtain ⟨i0,hi,hz0,hz1,hz2⟩:=info_parts infoS
 have HI:=Lib.hid hi;have HZ0:=Lib.hid hz0;have HZ1:=Lib.hid hz1;have HZ2:=Lib.hid hz2
 unfold fieldsE
 generalize kindE e=X1 at *
 obtain ⟨off,kind,save,rules,format,u⟩:=e
 unfold EraV.cells at *
 dsimp only at *
 obtain ⟨k,rfl⟩:∃ n:Nat,(n:Int)=kind:=⟨kind.toNat,by omega⟩
 have k3:([⟨#[45]⟩,ofL (textA save),rules]:List ByteArray)[k]? =some X1:=k3
 generalize ofL (textA off)=X0 at *
 generalize ofL (textA save)=XS at *
 have C0:=Lib.hid c0;have C1:=Lib.hid c1;have C2:=Lib.hid c2
 have HE:=Lib.hid h4
 clear c0 c1 c2 hi hz0 hz1 hz2 he hfit h1 h2 h3 s1 s2 h4
 obtain ⟨has,year,month,kk,wk,dd,sec,base⟩:=u
 dsimp only at *
 have hb0:=Box.new w #[.int .i64 off,.int .i64 (k:Int),.int .i64 save,.string rules,.string format,.bool has,.int .i64 year,.int .i64 month,.int .i64 kk,.int .i64 wk,.int .i64 dd,.int .i64 sec,.int .i64 base] 53
 go_enter Tryz.func147,Tryz.ntmps147
 go_upto_region 6 with (first
  |(go_at_call 114;(with_reducible refine (C0.out _).mono ?_);rintro e w1 ⟨rfl,hb1⟩;obtain ⟨hc1_0,hf1_0,hz1_0⟩:=bcs hb1 (w.heap.size))
  |(with_reducible (go_at_call 200;(with_reducible refine (C1.out _).mono ?_);rintro e w2 ⟨rfl,hb2⟩;obtain ⟨hc2_0,hf2_0,hz2_0⟩:=bcs hb2 (w.heap.size)))
  |(with_reducible (go_at_call 200;(with_reducible refine (C2.out _).mono ?_);rintro e w3 ⟨rfl,hb3⟩;obtain ⟨hc3_0,hf3_0,hz3_0⟩:=bcs hb3 (w.heap.size))))
 obtain ⟨W4,hW4⟩:∃ V,V=w3.alloc (.cells #[.string ⟨#[45]⟩,.string XS,.string rules] 9):=⟨_,rfl⟩
 have BK:Box W4 w3.heap.size #[.string ⟨#[45]⟩,.string XS,.string rules] 9:=by rw [hW4];exact Box.new _ _ _
 have B0:=(((hb0.later hb1).later hb2).later hb3).old (o:= .cells #[.string ⟨#[45]⟩,.string XS,.string rules] 9)
 rw [← hW4] at B0
 have hbw:Below w.heap.size w W4:=by rw [hW4];exact bcq
 have n0:w.heap.size<w3.heap.size:=((((hb0.later hb1).later hb2).later hb3)).lt
 have hk:W4.cell? ⟨w3.heap.size,k,none⟩=some (.string X1):=by
  rw [BK.cell]
  rcases (by omega:k=0∨k=1∨k=2) with rfl|rfl|rfl
  ·cases k3;rfl
  ·cases k3;rfl
  ·cases k3;rfl
 rw [← hW4]
 clear hb0 hb1 hb2 hb3 hc1_0 hf1_0 hz1_0 hc2_0 hf2_0 hz2_0 hc3_0 hf3_0 hz3_0 hW4 k3
 have hkB:=BK.lt
 have c0:=B0.cell
 have q0:(k:Int)<3:=by omega
 clear BK
 generalize w3.heap.size=qK at *
 have l0:=B0.lt
 go_region
 obtain ⟨W5,hW5⟩:∃ V,V=(W4.alloc (.cells #[.string X0,.string X1,.string format] 9)).drew:=⟨_,rfl⟩
 have B5:Box W5 w.heap.size #[.int .i64 off,.int .i64 (k:Int),.int .i64 save,.string rules,.string format,.bool has,.int .i64 year,.int .i64 month,.int .i64 kk,.int .i64 wk,.int .i64 dd,.int .i64 sec,.int .i64 base] 53:=by rw [hW5];exact B0.old.drew
 have HO5:Hid (OwnR W5 w.heap.size (.slice (some ⟨W4.heap.size,0,none⟩) 3 3) 3 [X0,X1,format]):=by
  rw [hW5]
  exact World.ownsRow_lit W4 #[.string X0,.string X1,.string format] 3 (by omega) (by unfold maxLen;omega) rfl
 have hb5:Below w.heap.size w W5:=by rw [hW5];exact bd (ba hbw)
 rw [← hW5]
 clear hW5 B0 c0 hk
 generalize W4.heap.size=qO at *
 have c5:=B5.cell
 have l5:=B5.lt
 cases has with
 |false=>
  go_wp2
  go_ret2
  refine ⟨_,rfl,?_,ba hb5⟩
  rw [show untilF ⟨false,year,month,kk,wk,dd,sec,base⟩=[] from rfl]
  show HoldsS _ _ [X0,X1,format]
  have hO:OwnR (W5.alloc (.cells #[.bool false,.int .i64 year,.int .i64 month,.int .i64 kk,.int .i64 wk,.int .i64 dd,.int .i64 sec,.int .i64 base] 51)) w.heap.size (.slice (some ⟨qO,0,none⟩) 3 3) 3 [X0,X1,format]:=World.ownsRow.alloc HO5.out _
  exact HoldsS.of_own (OwnR.s hO)
 |true=>
  obtain ⟨h1,h2,hf,h3,h4,h5,h6⟩:(-32767<year∧year<32767∧Day.fits kk wk dd month=true∧0≤base∧base≤2∧0≤sec∧sec≤172800):=by
   rcases end_of HE.out with ⟨_,h1,h2,h3⟩|⟨h,_⟩
   ·exact ⟨h1.1,h1.2,h2,h3⟩
   ·cases h
  obtain ⟨g1,g2,g3⟩:=fits_of hf
  have cY:=fun W=>Text year (by omega) (by omega) W
  have cM:=fun W=>MonthText month g2 g3 W
  have cD:=fun W=>OText ⟨kk,wk,dd⟩ g1 W
  have cT:=fun W=>AtText ⟨sec,base⟩ h5 h6 h3 h4 W
  unfold onV at cD
  unfold atV at cT
  dsimp only at cD cT
  have CY:=Lib.hid cY;have CM:=Lib.hid cM;have CD:=Lib.hid cD;have CT:=Lib.hid cT
  clear cY cM cD cT HE hf g1 g2 g3 h1 h2 h3 h4 h5 h6
  go_upto_region 10 with fail
  obtain ⟨W6,hW6⟩:∃ V,V=W5.alloc (.cells #[.bool true,.int .i64 year,.int .i64 month,.int .i64 kk,.int .i64 wk,.int .i64 dd,.int .i64 sec,.int .i64 base] 51):=⟨_,rfl⟩
  have B6:Box W6 W5.heap.size #[.bool true,.int .i64 year,.int .i64 month,.int .i64 kk,.int .i64 wk,.int .i64 dd,.int .i64 sec,.int .i64 base] 51:=by rw [hW6];exact Box.new _ _ _
  have HO6:Hid (OwnR W6 w.heap.size (.slice (some ⟨qO,0,none⟩) 3 3) 3 [X0,X1,format]):=by rw [hW6];exact World.ownsRow.alloc HO5.out _
  have hb6:Below w.heap.size w W6:=by rw [hW6];exact ba hb5
  have hqU:qO<W5.heap.size:=((HO5.out.lt qO rfl).2)
  rw [← hW6]
  clear hW6 B5 c5 l5 HO5
  obtain ⟨v6,hv6⟩:∃ V,V=Value.slice (some ⟨qO,0,none⟩) 3 3:=⟨_,rfl⟩
  rw [← hv6] at HO6 ⊢
  clear hv6
  have hwU:w.heap.size≤W5.heap.size:=hb5.size
  clear hb5
  generalize W5.heap.size=qU at *
  have c6:=B6.cell
  have l6:=B6.lt
  go_upto_region 11 with (first
   |(go_at_call 204;refine (CY.out _).mono ?_;rintro e w7 ⟨rfl,hb7⟩;have HO7:=Lib.hid (RBk.own_lat HO6.out hb7);have B7:=B6.later hb7;have hs7:=hb7.size)
   |(at_builtin;refine wpList_append_own _ rfl _ _ 193 rfl (w.heap.size) 9 i0 _ 1 16 Tryz.underlying193 HI.out HZ0.out HZ1.out HZ2.out rfl (by decide) _ _ _ rfl (World.ownsRow.alloc HO7.out _) ⟨_,0,none⟩ 1 1 [.string (ofL (textN year))] rfl rfl (cell_one_at (by simp)) (by simp [Value.oneCell']) (by unfold maxLen;omega) (by omega) (by simp;omega) ?_;intro v8 w8 hown8 hgrow8 _))
  have hOA:=World.ownsRow.alloc HO7.out (.cells #[.string (ofL (textN year))] 9)
  have B8:=box_grown B7.old hOA hgrow8 (by decide)
  have HO8:Hid (OwnR w8 w.heap.size v8 4 [X0,X1,format,ofL (textN year)]):=hown8
  have hb8:Below w.heap.size w w8:=Below.grown (ba (hb6.trans (hb7.mono (by omega)))) hgrow8 (by simp;omega) (fun j hj=>(hOA.lt j hj).1)
  have l8:=B8.lt
  clear hOA hown8 hgrow8 B7 hb7 B6 hb6 c6 HO6 HO7
  have c8:=B8.cell
  obtain ⟨mB,hmB⟩:∃ x,x=decide (month≠1):=⟨_,rfl⟩
  obtain ⟨dB,hdB⟩:∃ x,x=hasDay ⟨true,year,month,kk,wk,dd,sec,base⟩:=⟨_,rfl⟩
  obtain ⟨tB,htB⟩:∃ x,x=hasTime ⟨true,year,month,kk,wk,dd,sec,base⟩:=⟨_,rfl⟩
  have HM:=Lib.hid hmB;have HD:=Lib.hid hdB;have HT:=Lib.hid htB
  clear hmB hdB htB
  go_cut [11,12,13] from 58 to 68 (fun a b c wx=>a= .bool mB∧b= .bool dB∧c= .bool tB∧Below w8.heap.size w8 wx)
  case first=>
   have hm:mB= !(month==1):=by rw [HM.out];by_cases h:month=1<;>simp [h]
   have hd:dB= !((kk==0)&&((wk==0)&&(dd==1))):=by
    rw [HD.out];unfold hasDay
    by_cases h:kk=0<;>by_cases h2:wk=0<;>by_cases h3:dd=1<;>simp [h,h2,h3]
   have ht:tB= !((sec==0)&&(base==0)):=by
    rw [HT.out];unfold hasTime
    by_cases h:sec=0<;>by_cases h2:base=0<;>simp [h,h2]
   have e1:month=1∨(month==1)=false:=by
    by_cases h:month=1
    ·exact .inl h
    ·exact .inr (by simpa using h)
   have e2:(kk=0∧wk=0∧dd=1)∨(kk==0)=false∨(kk=0∧(wk==0)=false)∨(kk=0∧wk=0∧(dd==1)=false):=by
    by_cases h:kk=0
    ·by_cases h2:wk=0
     ·by_cases h3:dd=1
      ·exact .inl ⟨h,h2,h3⟩
      ·exact .inr (.inr (.inr ⟨h,h2,by simpa using h3⟩))
     ·exact .inr (.inr (.inl ⟨h,by simpa using h2⟩))
    ·exact .inr (.inl (by simpa using h))
   have e3:(sec=0∧base=0)∨(sec==0)=false∨(sec=0∧(base==0)=false):=by
    by_cases h:sec=0
    ·by_cases h2:base=0
     ·exact .inl ⟨h,h2⟩
     ·exact .inr (.inr ⟨h,by simpa using h2⟩)
    ·exact .inr (.inl (by simpa using h))
   have H1:=Lib.hid hm;have H2:=Lib.hid hd;have H3:=Lib.hid ht
   clear hm hd ht
   rcases e1 with rfl|e1
   all_goals rcases e2 with ⟨rfl,rfl,rfl⟩|e2|⟨rfl,e2⟩|⟨rfl,rfl,e2⟩
   all_goals rcases e3 with ⟨rfl,rfl⟩|e3|⟨rfl,e3⟩
   all_goals
    go_quiet (fail)
    go_wp2
    go_meet
    refine ⟨?_,?_,?_,bcq⟩
    ·rw [H1.out];first|rfl|(rw [e1];rfl)
    ·rw [H2.out];first|rfl|(rw [e2];rfl)
    ·rw [H3.out];first|rfl|(rw [e3];rfl)
  case rest=>
   obtain ⟨rfl,rfl,rfl,hcb⟩:=hcut
   have hbc:=hb8.trans (hcb.mono hb8.size)
   have HOc:=Lib.hid (RBk.own_lat HO8.out hcb)
   have Bc:=B8.later hcb
   have hsc:=hbc.size
   have lBc:=Bc.lt
   have cBc:=Bc.cell
   clear HO8 B8 c8
   cases tB with
   |true=>
    cases mB
    all_goals cases dB
    all_goals
     have hU:[X0,X1,format]++untilF ⟨true,year,month,kk,wk,dd,sec,base⟩=[X0,X1,format,ofL (textN year),textM month,textOn ⟨kk,wk,dd⟩,textAt ⟨sec,base⟩]:=by
      unfold untilF
      rw [← HD.out, ←HT.out, ←HM.out]
      rfl
     go_wp2_with (first
      |(go_at_call 202;refine (CM.out _).mono ?_;rintro e w9 ⟨rfl,hb9⟩;have HO9:=Lib.hid (RBk.own_lat HOc.out hb9);have B9:=Bc.later hb9;have hs9:=hb9.size;have lB9:=B9.lt;have cB9:=B9.cell)
      |((at_builtin;refine wpList_append_own _ rfl _ _ 193 rfl (w.heap.size) 9 i0 _ 1 16 Tryz.underlying193 HI.out HZ0.out HZ1.out HZ2.out rfl (by decide) _ _ _ rfl (World.ownsRow.alloc HO9.out _) ⟨_,0,none⟩ 1 1 [.string (textM month)] rfl rfl (cell_one_at (by simp)) (by simp [Value.oneCell']) (by unfold maxLen;omega) (by omega) (by simp;omega) ?_;intro v10 w10 hown10 hgrow10 _);have hOA10:=World.ownsRow.alloc HO9.out (.cells #[.string (textM month)] 9);have B10:=box_grown B9.old hOA10 hgrow10 (by decide);have HO10:Hid (OwnR w10 w.heap.size v10 5 [X0,X1,format,ofL (textN year),textM month]):=hown10;have hb10:Below w.heap.size w w10:=Below.grown (ba (hbc.trans (hb9.mono (by omega)))) hgrow10 (by simp;omega) (fun j hj=>(hOA10.lt j hj).1);have hs10:=hb10.size;have lB10:=B10.lt;have cB10:=B10.cell;clear hOA10 hown10 hgrow10)
      |(go_at_call 198;refine (CD.out _).mono ?_;rintro e w11 ⟨rfl,hb11⟩;have HO11:=Lib.hid (RBk.own_lat HO10.out hb11);have B11:=B10.later hb11;have hs11:=hb11.size;have lB11:=B11.lt;have cB11:=B11.cell)
      |((at_builtin;refine wpList_append_own _ rfl _ _ 193 rfl (w.heap.size) 9 i0 _ 1 16 Tryz.underlying193 HI.out HZ0.out HZ1.out HZ2.out rfl (by decide) _ _ _ rfl (World.ownsRow.alloc HO11.out _) ⟨_,0,none⟩ 1 1 [.string (textOn ⟨kk,wk,dd⟩)] rfl rfl (cell_one_at (by simp)) (by simp [Value.oneCell']) (by unfold maxLen;omega) (by omega) (by simp;omega) ?_;intro v12 w12 hown12 hgrow12 _);have hOA12:=World.ownsRow.alloc HO11.out (.cells #[.string (textOn ⟨kk,wk,dd⟩)] 9);have B12:=box_grown B11.old hOA12 hgrow12 (by decide);have HO12:Hid (OwnR w12 w.heap.size v12 6 [X0,X1,format,ofL (textN year),textM month,textOn ⟨kk,wk,dd⟩]):=hown12;have hb12:Below w.heap.size w w12:=Below.grown (ba (hb10.trans (hb11.mono (by omega)))) hgrow12 (by simp;omega) (fun j hj=>(hOA12.lt j hj).1);have hs12:=hb12.size;have lB12:=B12.lt;have cB12:=B12.cell;clear hOA12 hown12 hgrow12)
      |(go_at_call 199;refine (CT.out _).mono ?_;rintro e w13 ⟨rfl,hb13⟩;have HO13:=Lib.hid (RBk.own_lat HO12.out hb13);have B13:=B12.later hb13;have hs13:=hb13.size;have lB13:=B13.lt;have cB13:=B13.cell)
      |((at_builtin;refine wpList_append_own _ rfl _ _ 193 rfl (w.heap.size) 9 i0 _ 1 16 Tryz.underlying193 HI.out HZ0.out HZ1.out HZ2.out rfl (by decide) _ _ _ rfl (World.ownsRow.alloc HO13.out _) ⟨_,0,none⟩ 1 1 [.string (textAt ⟨sec,base⟩)] rfl rfl (cell_one_at (by simp)) (by simp [Value.oneCell']) (by unfold maxLen;omega) (by omega) (by simp;omega) ?_;intro v14 w14 hown14 hgrow14 _);have hOA14:=World.ownsRow.alloc HO13.out (.cells #[.string (textAt ⟨sec,base⟩)] 9);have B14:=box_grown B13.old hOA14 hgrow14 (by decide);have HO14:Hid (OwnR w14 w.heap.size v14 7 [X0,X1,format,ofL (textN year),textM month,textOn ⟨kk,wk,dd⟩,textAt ⟨sec,base⟩]):=hown14;have hb14:Below w.heap.size w w14:=Below.grown (ba (hb12.trans (hb13.mono (by omega)))) hgrow14 (by simp;omega) (fun j hj=>(hOA14.lt j hj).1);have hs14:=hb14.size;have lB14:=B14.lt;have cB14:=B14.cell;clear hOA14 hown14 hgrow14))
     go_ret2
     refine ⟨_,rfl,?_,hb14⟩
     show HoldsS _ _ ([X0,X1,format]++untilF ⟨true,year,month,kk,wk,dd,sec,base⟩)
     rw [hU]
     exact HoldsS.of_own (OwnR.s HO14.out)
   |false=>
    cases dB with
    |true=>
     cases mB
     all_goals
      have hU:[X0,X1,format]++untilF ⟨true,year,month,kk,wk,dd,sec,base⟩=[X0,X1,format,ofL (textN year),textM month,textOn ⟨kk,wk,dd⟩]:=by
       unfold untilF
       rw [← HD.out, ←HT.out, ←HM.out]
       rfl
      go_wp2_with (first
       |(go_at_call 202;refine (CM.out _).mono ?_;rintro e w9 ⟨rfl,hb9⟩;have HO9:=Lib.hid (RBk.own_lat HOc.out hb9);have B9:=Bc.later hb9;have hs9:=hb9.size;have lB9:=B9.lt;have cB9:=B9.cell)
       |((at_builtin;refine wpList_append_own _ rfl _ _ 193 rfl (w.heap.size) 9 i0 _ 1 16 Tryz.underlying193 HI.out HZ0.out HZ1.out HZ2.out rfl (by decide) _ _ _ rfl (World.ownsRow.alloc HO9.out _) ⟨_,0,none⟩ 1 1 [.string (textM month)] rfl rfl (cell_one_at (by simp)) (by simp [Value.oneCell']) (by unfold maxLen;omega) (by omega) (by simp;omega) ?_;intro v10 w10 hown10 hgrow10 _);have hOA10:=World.ownsRow.alloc HO9.out (.cells #[.string (textM month)] 9);have B10:=box_grown B9.old hOA10 hgrow10 (by decide);have HO10:Hid (OwnR w10 w.heap.size v10 5 [X0,X1,format,ofL (textN year),textM month]):=hown10;have hb10:Below w.heap.size w w10:=Below.grown (ba (hbc.trans (hb9.mono (by omega)))) hgrow10 (by simp;omega) (fun j hj=>(hOA10.lt j hj).1);have hs10:=hb10.size;have lB10:=B10.lt;have cB10:=B10.cell;clear hOA10 hown10 hgrow10)
       |(go_at_call 198;refine (CD.out _).mono ?_;rintro e w11 ⟨rfl,hb11⟩;have HO11:=Lib.hid (RBk.own_lat HO10.out hb11);have B11:=B10.later hb11;have hs11:=hb11.size;have lB11:=B11.lt;have cB11:=B11.cell)
       |((at_builtin;refine wpList_append_own _ rfl _ _ 193 rfl (w.heap.size) 9 i0 _ 1 16 Tryz.underlying193 HI.out HZ0.out HZ1.out HZ2.out rfl (by decide) _ _ _ rfl (World.ownsRow.alloc HO11.out _) ⟨_,0,none⟩ 1 1 [.string (textOn ⟨kk,wk,dd⟩)] rfl rfl (cell_one_at (by simp)) (by simp [Value.oneCell']) (by unfold maxLen;omega) (by omega) (by simp;omega) ?_;intro v12 w12 hown12 hgrow12 _);have hOA12:=World.ownsRow.alloc HO11.out (.cells #[.string (textOn ⟨kk,wk,dd⟩)] 9);have B12:=box_grown B11.old hOA12 hgrow12 (by decide);have HO12:Hid (OwnR w12 w.heap.size v12 6 [X0,X1,format,ofL (textN year),textM month,textOn ⟨kk,wk,dd⟩]):=hown12;have hb12:Below w.heap.size w w12:=Below.grown (ba (hb10.trans (hb11.mono (by omega)))) hgrow12 (by simp;omega) (fun j hj=>(hOA12.lt j hj).1);have hs12:=hb12.size;have lB12:=B12.lt;have cB12:=B12.cell;clear hOA12 hown12 hgrow12))
      go_ret2
      refine ⟨_,rfl,?_,hb12⟩
      show HoldsS _ _ ([X0,X1,format]++untilF ⟨true,year,month,kk,wk,dd,sec,base⟩)
      rw [hU]
      exact HoldsS.of_own (OwnR.s HO12.out)
    |false=>
     cases mB with
     |true=>
      have hU:[X0,X1,format]++untilF ⟨true,year,month,kk,wk,dd,sec,base⟩=[X0,X1,format,ofL (textN year),textM month]:=by
       unfold untilF
       rw [← HD.out, ←HT.out, ←HM.out]
       rfl
      go_wp2_with (first
       |(go_at_call 202;refine (CM.out _).mono ?_;rintro e w9 ⟨rfl,hb9⟩;have HO9:=Lib.hid (RBk.own_lat HOc.out hb9);have B9:=Bc.later hb9;have hs9:=hb9.size;have lB9:=B9.lt;have cB9:=B9.cell)
       |((at_builtin;refine wpList_append_own _ rfl _ _ 193 rfl (w.heap.size) 9 i0 _ 1 16 Tryz.underlying193 HI.out HZ0.out HZ1.out HZ2.out rfl (by decide) _ _ _ rfl (World.ownsRow.alloc HO9.out _) ⟨_,0,none⟩ 1 1 [.string (textM month)] rfl rfl (cell_one_at (by simp)) (by simp [Value.oneCell']) (by unfold maxLen;omega) (by omega) (by simp;omega) ?_;intro v10 w10 hown10 hgrow10 _);have hOA10:=World.ownsRow.alloc HO9.out (.cells #[.string (textM month)] 9);have B10:=box_grown B9.old hOA10 hgrow10 (by decide);have HO10:Hid (OwnR w10 w.heap.size v10 5 [X0,X1,format,ofL (textN year),textM month]):=hown10;have hb10:Below w.heap.size w w10:=Below.grown (ba (hbc.trans (hb9.mono (by omega)))) hgrow10 (by simp;omega) (fun j hj=>(hOA10.lt j hj).1);have hs10:=hb10.size;have lB10:=B10.lt;have cB10:=B10.cell;clear hOA10 hown10 hgrow10))
      go_ret2
      refine ⟨_,rfl,?_,hb10⟩
      show HoldsS _ _ ([X0,X1,format]++untilF ⟨true,year,month,kk,wk,dd,sec,base⟩)
      rw [hU]
      exact HoldsS.of_own (OwnR.s HO10.out)
     |false=>
      have hU:[X0,X1,format]++untilF ⟨true,year,month,kk,wk,dd,sec,base⟩=[X0,X1,format,ofL (textN year)]:=by
       unfold untilF
       rw [← HD.out, ←HT.out, ←HM.out]
       rfl
      go_wp2
      go_ret2
      refine ⟨_,rfl,?_,hbc⟩
      show HoldsS _ _ ([X0,X1,format]++untilF ⟨true,year,month,kk,wk,dd,sec,base⟩)
      rw [hU]
      exact HoldsS.of_own (OwnR.s HOc.out)
end RRe
end
section
open Go.RowKit NB
namespace RWr
open Rd Eqs
def lineB (a:ByteArray) (l:List ByteArray):Bs:=a.data.toList++32 :: (joinB l++[10])
theorem line {w:World} {v:Value} {l:List ByteArray} (h:HoldsS w v l) (h0:l≠[]) (hl:l.length≤16) (hc:∀ s∈l,CleanB 64 s) (a:ByteArray) (ha:a.size≤1000):
 Calls Tryz.prog 146 #[.string a,v] w fun e w'=>e= .returned (.string (ofL (lineB a l)))∧w=w':=by
 have cj:=RLi.Join h h0 hl (fun x hx=>⟨(hc x hx).1,Nat.le_trans (hc x hx).2 (by decide)⟩)
 have hlen:=join_len (lists l) 64 (fun b hb=>by
  obtain ⟨s,hs,rfl⟩:=List.mem_map.1 hb
  have:=(hc s hs).2
  rw [len_list];exact this)
 have hll:(lists l).length=l.length:=by unfold lists;rw [List.length_map]
 rw [hll] at hlen
 have hJ:(ofL (joinF (l.map fun s=>s.data.toList))).size≤2000:=by
  rw [ofL_size]
  have:(joinF (lists l)).length≤16*65:=Nat.le_trans hlen (Nat.mul_le_mul_right _ hl)
  exact Nat.le_trans this (by decide)
 have hR:ofL (lineB a l)=a++⟨#[32]⟩++ofL (joinF (l.map fun s=>s.data.toList))++⟨#[10]⟩:=by
  rw [← ofL_self a,show (⟨#[32]⟩:ByteArray)=ofL [32] from rfl,show (⟨#[10]⟩:ByteArray)=ofL [10] from rfl,ofL_app,ofL_app,ofL_app]
  unfold lineB joinB lists
  rw [ofL_self]
  simp
 rw [hR]
 generalize ofL (joinF (l.map fun s=>s.data.toList))=J at *
 have z1:(a++⟨#[32]⟩).size=a.size+1:=ByteArray.size_append
 have z2:(a++⟨#[32]⟩++J).size=(a++⟨#[32]⟩).size+J.size:=ByteArray.size_append
 have cat1:=fun W=>run_string_add_sum (P:=Tryz.prog) W a ⟨#[32]⟩ (by show _+1≤_;omega)
 have cat2:=fun W=>run_string_add_sum (P:=Tryz.prog) W (a++⟨#[32]⟩) J (by omega)
 have cat3:=fun W=>run_string_add_sum (P:=Tryz.prog) W (a++⟨#[32]⟩++J) ⟨#[10]⟩ (by show _+1≤_;omega)
 have t1:¬(9223372036854775807<a.size+(⟨#[32]⟩:ByteArray).size):=by show ¬(_ < _+1);omega
 have t2:¬(9223372036854775807<(a++⟨#[32]⟩).size+J.size):=by omega
 have t3:¬(9223372036854775807<(a++⟨#[32]⟩++J).size+(⟨#[10]⟩:ByteArray).size):=by show ¬(_ < _+1);omega
 obtain ⟨p,cap,e1,_⟩:=h.pk1
 have CJ:=Lib.hid cj
 clear cj hlen hll hc hR z1 z2 h0 h
 subst e1
 go_enter Tryz.func146,Tryz.ntmps146
 go_wp2_with (go_at_call 203;(with_reducible refine (CJ.out).mono ?_);rintro e w' ⟨rfl,rfl⟩)
 go_ret
 exact ⟨rfl,rfl⟩
def zoneL (z:ZoneV):List Ln:=match z.es with
 | []=>[]
 |e :: r=> .zone z.name e :: r.map .more
def tabL (t:TabV):List Ln:=t.rs.map .rule++(t.zs.flatMap zoneL++t.ls.map .link)
theorem join_first (a:Bs) {l:List Bs} (h:l≠[]):joinF (a :: l)=a++32 :: joinF l:=by
 cases l with
 |nil=>exact absurd rfl h
 |cons b r=>rfl
theorem line_rule (r:RuleV):lineB ruleW (fieldsR r)=(Ln.rule r).bytes++[10]:=by
 show _=joinF (ruleW.data.toList :: lists (fieldsR r))++[10]
 rw [join_first _ (by simp [lists,fieldsR])]
 unfold lineB joinB
 simp
theorem line_link (x:LinkV):lineB linkW (fieldsK x)=(Ln.link x).bytes++[10]:=by
 show _=joinF (linkW.data.toList :: lists (fieldsK x))++[10]
 rw [join_first _ (by simp [lists,fieldsK])]
 unfold lineB joinB
 simp
theorem fieldsE_ne (e:EraV):lists (fieldsE e)≠[]:=by simp [lists,fieldsE]
theorem line_more (e:EraV):lineB ⟨#[]⟩ (fieldsE e)=(Ln.more e).bytes++[10]:=by
 unfold lineB
 show []++_=(32 :: joinB (fieldsE e))++[10]
 simp
theorem line_zone (n:ByteArray) (e:EraV):lineB (⟨#[90,111,110,101,32]⟩++n) (fieldsE e)=(Ln.zone n e).bytes++[10]:=by
 show _=joinF (zoneW.data.toList :: n.data.toList :: lists (fieldsE e))++[10]
 rw [join_first _ (by simp),join_first _ (fieldsE_ne e)]
 have:(⟨#[90,111,110,101,32]⟩++n:ByteArray).data.toList=[90,111,110,101,32]++n.data.toList:=by simp
 unfold lineB joinB
 rw [this]
 simp [zoneW]
theorem src_snoc (P:List Ln) (x:Ln):ofL (srcB P)++ofL (x.bytes++[10])=ofL (srcB (P++[x])):=by
 rw [ofL_app]
 unfold srcB
 rw [List.flatMap_append]
 simp
theorem bytes_size {x:Ln} (h:x.right=true):(ofL (x.bytes++[10])).size≤512:=by
 rw [ofL_size,List.length_append]
 have:=Ln.short h
 simp;omega
end RWr
end
section
open Go.RowKit NB
namespace RWr
open Rd Eqs
theorem zone_rights {x:ZoneV} (h:zoneOk x=true):Nam.nameE x.name=0∧0<x.es.length∧∀ e∈x.es,Er.rightB e=true:=by
 unfold zoneOk at h
 rw [Bool.and_eq_true,decide_eq_true_eq] at h
 obtain ⟨h0,h1⟩:=Zn.zone_iff.1 h.2
 refine ⟨h.1,h0,fun e he=> ?_⟩
 obtain ⟨j,hj⟩:=List.mem_iff_getElem?.1 he
 have:=h1 j e (List.getElem?_eq_some_iff.1 hj).1 hj
 unfold Zn.okAt at this
 exact (Bool.and_eq_true_iff.1 this).1
theorem zoneL_at {x:ZoneV} {i:Nat} {e:EraV} (h:x.es[i]? =some e):(zoneL x)[i]? =some (if i=0 then .zone x.name e else .more e):=by
 unfold zoneL
 cases hx:x.es with
 |nil=>rw [hx] at h;cases h
 |cons a r=>
  rw [hx] at h
  cases i with
  |zero=>cases h;rfl
  |succ i=>
   dsimp only
   rw [List.getElem?_cons_succ] at h ⊢
   rw [List.getElem?_map,h,if_neg (by omega)]
   rfl
theorem zoneL_len (x:ZoneV):(zoneL x).length=x.es.length:=by
 unfold zoneL
 cases x.es with
 |nil=>rfl
 |cons a r=>simp
theorem take_at {P Q:List Ln} {i:Nat} {x:Ln} (h:Q[i]? =some x):P++Q.take (i+1)=(P++Q.take i)++[x]:=by
 rw [List.take_add_one,h, ←List.append_assoc]
 rfl
theorem grow {S:ByteArray} {P:List Ln} {x:Ln} {N:Nat} (hS:S=ofL (srcB P)) (hN:S.size≤N*512) (hx:x.right=true):S++ofL (x.bytes++[10])=ofL (srcB (P++[x]))∧(S++ofL (x.bytes++[10])).size≤(N+1)*512:=by
 refine ⟨by rw [hS];exact src_snoc P x,?_⟩
 have:=bytes_size hx
 rw [ByteArray.size_append]
 omega
set_option maxRecDepth 100000 in
set_option maxHeartbeats 6400000 in
theorem Text {w:World} {t:TabV} (ht:HoldsT w t) (hr:rightT t=true) (b1:t.rs.length≤12) (b2:t.zs.length≤10) (b3:t.ls.length≤16) (b4:∀ z∈t.zs,z.es.length≤12):
 Calls Tryz.prog 92 #[.agg #[t.rv,t.zv,t.lv]] w fun e w'=>e= .returned (.tuple #[.string (ofL (srcB (tabL t))),.int .i64 0])∧Below w.heap.size w w':=by
 have cr:=fun W (h:HoldsT W t)=>Right h
 rw [hr] at cr
 have HTT:=Lib.hid ht
 obtain ⟨R,hR⟩:∃ R,R=ofL (srcB (tabL t)):=⟨_,rfl⟩
 rw [← hR]
 unfold rightT at hr
 rw [Bool.and_eq_true,Bool.and_eq_true] at hr
 obtain ⟨r1,r2,r3⟩:=hr
 have HR1:=Lib.hid (List.all_eq_true.1 r1);have HR2:=Lib.hid (List.all_eq_true.1 r2);have HR3:=Lib.hid (List.all_eq_true.1 r3)
 obtain ⟨rv,zv,lv,rs,zs,ls⟩:=t
 obtain ⟨p,cap,e1,hpr⟩:=ht.r.g.pk
 obtain ⟨pz,capz,e3,hpz⟩:=ht.z.pk
 obtain ⟨pl,capl,e5,hpl⟩:=ht.l.pk
 have rf:=ht.r.fit;have zf:=ht.zf;have lf:=ht.lf
 unfold tabL at hR
 dsimp only at e1 e3 e5 hpr hpz hpl rf zf lf b1 b2 b3 b4 HR1 HR2 HR3 hR cr HTT ⊢
 subst e1 e3 e5
 obtain ⟨n,hn⟩:∃ n,n=rs.length:=⟨_,rfl⟩
 obtain ⟨nz,hnz⟩:∃ nz,nz=zs.length:=⟨_,rfl⟩
 obtain ⟨nl,hnl⟩:∃ nl,nl=ls.length:=⟨_,rfl⟩
 rw [← hn] at b1 cr HTT ⊢
 rw [← hnz] at b2 cr HTT ⊢
 rw [← hnl] at b3 cr HTT ⊢
 have HPR:=Lib.hid hpr;have HPZ:=Lib.hid hpz;have HPL:=Lib.hid hpl;have RF:=Lib.hid rf;have ZF:=Lib.hid zf;have LF:=Lib.hid lf;have HN:=Lib.hid hn;have HNZ:=Lib.hid hnz;have HNL:=Lib.hid hnl;have B4:=Lib.hid b4;have HRR:=Lib.hid hR;have CR:=Lib.hid cr
 clear hpr hpz hpl rf zf lf hn hnz hnl b4 hR cr r1 r2 r3 ht
 go_enter Tryz.func92,Tryz.ntmps92
 go_upto_region 3 with (go_at_call 144;refine (CR.out _ (HTT.out.later bcq)).mono ?_;rintro e w1 ⟨rfl,hb1⟩)
 have b1':Box w1 w.heap.size #[.slice p n cap,.slice pz nz capz,.slice pl nl capl] 26:=(Box.new w _ _).later hb1
 have hB1:Below w.heap.size w w1:=bcq
 have m1:=b1'.lt
 clear hb1 HTT
 have c1:=b1'.cell
 go_wp2
 go_loopw [25,4] (fun i s wr=>∃ (k:Nat) (S:ByteArray),i= .int .i64 k∧s= .string S∧k≤n∧Below w1.heap.size w1 wr∧S.size≤k*512∧Hid (S=ofL (srcB ([]++(rs.map Ln.rule).take k)))) (fun i _ _=>n-(intOf i).toNat)
 case atStart=>exact ⟨0,⟨#[]⟩,rfl,rfl,Nat.zero_le _,Below.refl _ _,Nat.zero_le _,rfl⟩
 case round=>
  obtain ⟨k,S,rfl,rfl,hk,hbr,hS,HS⟩:=hrel
  obtain ⟨w2,rfl⟩:∃ w2:World,w2=wr:=⟨_,rfl⟩
  have hbw:Below w.heap.size w w2:=hB1.trans (hbr.mono hB1.size)
  have b2':=b1'.later hbr
  have c2:=b2'.cell;have m2:=b2'.lt
  by_cases hlt:k<n
  ·obtain ⟨x,hx⟩:∃ x,rs[k]? =some x:=⟨_,List.getElem?_eq_getElem (by rw [← HN.out];exact hlt)⟩
   obtain ⟨g1,o1,rfl,hg1,d1⟩:=HPR.out k x hx
   have x0:=(hbw.cell (p:=⟨g1,o1+k*11+0,none⟩) hg1).trans (d1 0 _ rfl)
   have x1:=(hbw.cell (p:=⟨g1,o1+k*11+1,none⟩) hg1).trans (d1 1 _ rfl)
   have x2:=(hbw.cell (p:=⟨g1,o1+k*11+2,none⟩) hg1).trans (d1 2 _ rfl)
   have x3:=(hbw.cell (p:=⟨g1,o1+k*11+3,none⟩) hg1).trans (d1 3 _ rfl)
   have x4:=(hbw.cell (p:=⟨g1,o1+k*11+4,none⟩) hg1).trans (d1 4 _ rfl)
   have x5:=(hbw.cell (p:=⟨g1,o1+k*11+5,none⟩) hg1).trans (d1 5 _ rfl)
   have x6:=(hbw.cell (p:=⟨g1,o1+k*11+6,none⟩) hg1).trans (d1 6 _ rfl)
   have x7:=(hbw.cell (p:=⟨g1,o1+k*11+7,none⟩) hg1).trans (d1 7 _ rfl)
   have x8:=(hbw.cell (p:=⟨g1,o1+k*11+8,none⟩) hg1).trans (d1 8 _ rfl)
   have x9:=(hbw.cell (p:=⟨g1,o1+k*11+9,none⟩) hg1).trans (d1 9 _ rfl)
   have x10:=(hbw.cell (p:=⟨g1,o1+k*11+10,none⟩) hg1).trans (d1 10 _ rfl)
   rw [Nat.add_zero] at x0
   have fx:=RF.out x (List.mem_of_getElem? hx)
   have rx:=HR1.out x (List.mem_of_getElem? hx)
   have hrx:(Ln.rule x).right=true:=rx
   have cF:=fun X=>RRu.Fields x fx rx X
   have cL:∀ (X:World) (v:Value),HoldsS X v (fieldsR x)→Calls Tryz.prog 146 #[.string ⟨#[82,117,108,101]⟩,v] X fun e w'=>e= .returned (.string (ofL ((Ln.rule x).bytes++[10])))∧X=w':=fun X v h=>by
    have:=line h (by simp [fieldsR]) (by simp [fieldsR]) (clean_rule rx) ruleW (by decide)
    rw [line_rule] at this
    exact this
   obtain ⟨hg,hgs⟩:=grow (N:=k) HS.out hS hrx
   rw [← take_at (by rw [List.getElem?_map,hx];rfl)] at hg
   have hbs:=bytes_size hrx
   unfold RuleV.cells at cF
   generalize ofL ((Ln.rule x).bytes++[10])=L at *
   have cat1:=fun W=>run_string_add_sum (P:=Tryz.prog) W S L (by omega)
   have t1:¬(9223372036854775807<S.size+L.size):=by omega
   have CF:=Lib.hid cF;have CL:=Lib.hid cL;have HG:=Lib.hid hg;have HGS:=Lib.hid hgs
   clear d1 hx fx rx hrx cF cL hg hgs HS
   have q1:(k:Int)<(n:Int):=by omega
   go_wp2_with (first
    |(go_at_call 145;refine (CF.out _).mono ?_;rintro e w3 ⟨v3,rfl,hv3,hb3⟩)
    |(go_at_call 146;refine (CL.out _ _ hv3).mono ?_;rintro e w' ⟨rfl,rfl⟩))
   go_roundw
   case rel=>exact ⟨k+1,S++L,by go_num,rfl,by omega,bcq,HGS.out,HG.out⟩
   case measure=>simp [intOf];omega
  ·obtain rfl:k=n:=by omega
   have hS1:S=ofL (srcB (rs.map Ln.rule++(zs.take 0).flatMap zoneL)):=by
    have:=HS.out
    rw [List.take_of_length_le (by rw [List.length_map, ←HN.out];exact Nat.le_refl _),List.nil_append] at this
    rw [this];simp
   have HS1:=Lib.hid hS1
   clear hS1 HS
   go_wp2
   go_loopw [42,4] (fun i s wr=>∃ (j:Nat) (S:ByteArray),i= .int .i64 j∧s= .string S∧j≤nz∧Below w2.heap.size w2 wr∧S.size≤(12+12*j)*512∧Hid (S=ofL (srcB (rs.map Ln.rule++(zs.take j).flatMap zoneL)))) (fun i _ _=>nz-(intOf i).toNat)
   case atStart=>exact ⟨0,S,rfl,rfl,Nat.zero_le _,Below.refl _ _,by omega,HS1.out⟩
   case round=>
    obtain ⟨j,S,rfl,rfl,hj,hbr2,hS,HS⟩:=hrel
    obtain ⟨w4,rfl⟩:∃ w4:World,w4=wr:=⟨_,rfl⟩
    have hbw4:Below w.heap.size w w4:=hbw.trans (hbr2.mono hbw.size)
    have b4':=b2'.later hbr2
    have c4:=b4'.cell;have m4:=b4'.lt
    by_cases hlt4:j<nz
    ·obtain ⟨x,hx⟩:∃ x,zs[j]? =some x:=⟨_,List.getElem?_eq_getElem (by rw [← HNZ.out];exact hlt4)⟩
     obtain ⟨g1,o1,rfl,hg1,d1⟩:=HPZ.out j x hx
     have x0:=(hbw4.cell (p:=⟨g1,o1+j*2+0,none⟩) hg1).trans (d1 0 _ rfl)
     have x1:=(hbw4.cell (p:=⟨g1,o1+j*2+1,none⟩) hg1).trans (d1 1 _ rfl)
     rw [Nat.add_zero] at x0
     have zfx:=ZF.out x (List.mem_of_getElem? hx)
     have rzx:=HR2.out x (List.mem_of_getElem? hx)
     have hel:=B4.out x (List.mem_of_getElem? hx)
     obtain ⟨rn,r0,re⟩:=zone_rights rzx
     have hzl:=zoneL_len x
     have hza:=fun (i:Nat) (e:EraV) (h:x.es[i]? =some e)=>zoneL_at h
     have hnx:(zs.take (j+1)).flatMap zoneL=(zs.take j).flatMap zoneL++zoneL x:=by
      rw [List.take_add_one,hx,List.flatMap_append];simp
     obtain ⟨ZL,hZL⟩:∃ ZL,ZL=zoneL x:=⟨_,rfl⟩
     rw [← hZL] at hzl hza hnx
     obtain ⟨nm,xv,es⟩:=x
     obtain ⟨pp,cc,hv⟩:=zfx.e.form
     dsimp only at hv x0 x1 rn r0 re hel hzl hza
     subst hv
     have hns:nm.size≤64:=(clean_name rn).2
     obtain ⟨m,hm⟩:∃ m,m=es.length:=⟨_,rfl⟩
     have hef:=zfx.e.fit
     have hee:=zfx.e
     dsimp only at hef hee
     rw [← hm] at r0 hel hzl x1 hee
     have HEE:=Lib.hid hee;have HEF:=Lib.hid hef;have HRE:=Lib.hid re;have HZA:=Lib.hid hza;have HNX:=Lib.hid hnx;have HM:=Lib.hid hm;have HZLN:=Lib.hid hzl;have RN:=Lib.hid rn
     clear d1 hx zfx rzx hza hnx hZL hm hef hee re hzl rn
     have q1:(j:Int)<(nz:Int):=by omega
     go_upto_region 13 with fail
     obtain ⟨w5,hw5⟩:∃ V,V=w4.alloc (.cells #[.string nm,.slice pp m cc] 66):=⟨_,rfl⟩
     have b5:Box w5 w4.heap.size #[.string nm,.slice pp m cc] 66:=by rw [hw5];exact Box.new _ _ _
     have hbw5:Below w.heap.size w w5:=by rw [hw5];exact hbw4.alloc (by omega) _
     have hb45:Below w4.heap.size w4 w5:=by rw [hw5];exact bcq
     rw [← hw5]
     clear hw5
     have c5:=b5.cell
     have m5:=b5.lt
     go_wp2
     go_loopw [49,4] (fun i s wy=>∃ (i':Nat) (S:ByteArray),i= .int .i64 i'∧s= .string S∧i'≤m∧Below w5.heap.size w5 wy∧S.size≤(12+12*j+i')*512∧Hid (S=ofL (srcB ((rs.map Ln.rule++(zs.take j).flatMap zoneL)++ZL.take i')))) (fun i _ _=>m-(intOf i).toNat)
     case atStart=>exact ⟨0,S,rfl,rfl,Nat.zero_le _,Below.refl _ _,hS,by rw [List.take_zero,List.append_nil];exact HS.out⟩
     case round=>
      obtain ⟨i,S,rfl,rfl,hi,hbr5,hS,HS⟩:=hrel
      obtain ⟨w6,rfl⟩:∃ w6:World,w6=wr:=⟨_,rfl⟩
      have hbw6:Below w.heap.size w w6:=hbw5.trans (hbr5.mono hbw5.size)
      have b6:=b5.later hbr5
      have c6:=b6.cell;have m6:=b6.lt
      by_cases hlti:i<m
      ·obtain ⟨e,he⟩:∃ e,es[i]? =some e:=⟨_,List.getElem?_eq_getElem (by rw [← HM.out];exact hlti)⟩
       obtain ⟨g2,o2,cap2,e2,hg2,d2⟩:=(HEE.out.later hbw6).at he
       rw [← HM.out] at e2
       cases e2
       have y0:=d2 0 _ rfl
       have y1:=d2 1 _ rfl
       have y2:=d2 2 _ rfl
       have y3:=d2 3 _ rfl
       have y4:=d2 4 _ rfl
       have y5:=d2 5 _ rfl
       have y6:=d2 6 _ rfl
       have y7:=d2 7 _ rfl
       have y8:=d2 8 _ rfl
       have y9:=d2 9 _ rfl
       have y10:=d2 10 _ rfl
       have y11:=d2 11 _ rfl
       have y12:=d2 12 _ rfl
       rw [Nat.add_zero] at y0
       have fe:=HEF.out e (List.mem_of_getElem? he)
       have rie:=HRE.out e (List.mem_of_getElem? he)
       have cF:=fun X=>RRe.Fields e fe rie X
       have hza:=HZA.out i e he
       unfold EraV.cells at cF
       have q2:(i:Int)<(m:Int):=by omega
       by_cases hi0:i=0
       ·subst hi0
        rw [if_pos rfl] at hza
        have hrx:(Ln.zone nm e).right=true:=by
         show (decide (Nam.nameE nm=0)&&Er.rightB e)=true
         rw [RN.out,rie];rfl
        have cL:∀ (X:World) (v:Value),HoldsS X v (fieldsE e)→Calls Tryz.prog 146 #[.string (⟨#[90,111,110,101,32]⟩++nm),v] X fun e' w'=>e'= .returned (.string (ofL ((Ln.zone nm e).bytes++[10])))∧X=w':=fun X v h=>by
         have hfl:=fieldsE_len e
         have:=line h (fun e0=>by rw [e0] at hfl;simp at hfl) (by omega) (clean_era rie) (⟨#[90,111,110,101,32]⟩++nm) (by rw [ByteArray.size_append];show 5+_≤_;omega)
         rw [line_zone] at this
         exact this
        obtain ⟨hg,hgs⟩:=grow (N:=12+12*j+0) HS.out hS hrx
        rw [← take_at hza] at hg
        have hbs:=bytes_size hrx
        generalize ofL ((Ln.zone nm e).bytes++[10])=L at *
        have cat1:=fun W=>run_string_add_sum (P:=Tryz.prog) W S L (by omega)
        have t1:¬(9223372036854775807<S.size+L.size):=by omega
        have cat2:=fun W=>run_string_add_sum (P:=Tryz.prog) W ⟨#[90,111,110,101,32]⟩ nm (by show 5+_≤_;omega)
        have t2:¬(9223372036854775807<(⟨#[90,111,110,101,32]⟩:ByteArray).size+nm.size):=by show ¬(_ < 5+_);omega
        have CF:=Lib.hid cF;have CL:=Lib.hid cL;have HG:=Lib.hid hg;have HGS:=Lib.hid hgs
        clear d2 he fe rie hza cF cL hg hgs HS hrx
        simp only [Nat.zero_mul,Nat.add_zero] at y0 y1 y2 y3 y4 y5 y6 y7 y8 y9 y10 y11 y12
        go_wp2_with (first
         |(go_at_call 147;refine (CF.out _).mono ?_;rintro e' w7 ⟨v7,rfl,hv7,hb7⟩;have b7:=(b6.old).later hb7;have c7:=b7.cell;have m7:=b7.lt)
         |(go_at_call 146;refine (CL.out _ _ hv7).mono ?_;rintro e' w' ⟨rfl,rfl⟩))
        go_roundw
        case rel=>exact ⟨1,S++L,by go_num,rfl,by omega,bcq,HGS.out,HG.out⟩
        case measure=>simp [intOf];omega
       ·rw [if_neg hi0] at hza
        have hrx:(Ln.more e).right=true:=rie
        have cL:∀ (X:World) (v:Value),HoldsS X v (fieldsE e)→Calls Tryz.prog 146 #[.string ⟨#[]⟩,v] X fun e' w'=>e'= .returned (.string (ofL ((Ln.more e).bytes++[10])))∧X=w':=fun X v h=>by
         have hfl:=fieldsE_len e
         have:=line h (fun e0=>by rw [e0] at hfl;simp at hfl) (by omega) (clean_era rie) ⟨#[]⟩ (by decide)
         rw [line_more] at this
         exact this
        obtain ⟨hg,hgs⟩:=grow (N:=12+12*j+i) HS.out hS hrx
        rw [← take_at hza] at hg
        have hbs:=bytes_size hrx
        generalize ofL ((Ln.more e).bytes++[10])=L at *
        have cat1:=fun W=>run_string_add_sum (P:=Tryz.prog) W S L (by omega)
        have t1:¬(9223372036854775807<S.size+L.size):=by omega
        have q3:((i:Int)==0)=false:=by rw [beq_eq_false_iff_ne];omega
        have CF:=Lib.hid cF;have CL:=Lib.hid cL;have HG:=Lib.hid hg;have HGS:=Lib.hid hgs
        clear d2 he fe rie hza cF cL hg hgs HS hrx
        go_wp2_with (first
         |(go_at_call 147;refine (CF.out _).mono ?_;rintro e' w7 ⟨v7,rfl,hv7,hb7⟩)
         |(go_at_call 146;refine (CL.out _ _ hv7).mono ?_;rintro e' w' ⟨rfl,rfl⟩))
        go_roundw
        case rel=>exact ⟨i+1,S++L,by go_num,rfl,by omega,bcq,HGS.out,HG.out⟩
        case measure=>simp [intOf];omega
      ·obtain rfl:i=m:=by omega
       have hS1:S=ofL (srcB (rs.map Ln.rule++(zs.take (j+1)).flatMap zoneL)):=by
        have:=HS.out
        have eZ:ZL.take i=ZL:=List.take_of_length_le (by rw [HZLN.out];exact Nat.le_refl _)
        rw [eZ,List.append_assoc, ←HNX.out] at this
        exact this
       have HS1:=Lib.hid hS1
       have hb46:Below w4.heap.size w4 w6:=hb45.trans (hbr5.mono hb45.size)
       clear hS1 HS
       go_wp2
       go_roundw
       case rel=>exact ⟨j+1,S,by go_num,rfl,by omega,hbr2.trans (hb46.mono hbr2.size),by omega,HS1.out⟩
       case measure=>simp [intOf];omega
    ·obtain rfl:j=nz:=by omega
     have hS1:S=ofL (srcB ((rs.map Ln.rule++zs.flatMap zoneL)++(ls.map Ln.link).take 0)):=by
      have:=HS.out
      rw [List.take_of_length_le (by rw [← HNZ.out];exact Nat.le_refl _)] at this
      rw [this,List.take_zero,List.append_nil]
     have HS1:=Lib.hid hS1
     clear hS1 HS
     have hS2:S.size≤132*512:=by omega
     go_wp2
     go_loopw [77,4] (fun i s wy=>∃ (i':Nat) (S:ByteArray),i= .int .i64 i'∧s= .string S∧i'≤nl∧Below w4.heap.size w4 wy∧S.size≤(132+i')*512∧Hid (S=ofL (srcB ((rs.map Ln.rule++zs.flatMap zoneL)++(ls.map Ln.link).take i')))) (fun i _ _=>nl-(intOf i).toNat)
     case atStart=>exact ⟨0,S,rfl,rfl,Nat.zero_le _,Below.refl _ _,hS2,HS1.out⟩
     case round=>
      obtain ⟨i,S,rfl,rfl,hi,hbr5,hS,HS⟩:=hrel
      have hbw6:Below w.heap.size w wr:=hbw4.trans (hbr5.mono hbw4.size)
      by_cases hlti:i<nl
      ·obtain ⟨x,hx⟩:∃ x,ls[i]? =some x:=⟨_,List.getElem?_eq_getElem (by rw [← HNL.out];exact hlti)⟩
       obtain ⟨g1,o1,rfl,hg1,d1⟩:=HPL.out i x hx
       have x0:=(hbw6.cell (p:=⟨g1,o1+i*2+0,none⟩) hg1).trans (d1 0 _ rfl)
       have x1:=(hbw6.cell (p:=⟨g1,o1+i*2+1,none⟩) hg1).trans (d1 1 _ rfl)
       rw [Nat.add_zero] at x0
       have fx:=LF.out x (List.mem_of_getElem? hx)
       have rx:=HR3.out x (List.mem_of_getElem? hx)
       have hrx:(Ln.link x).right=true:=rx
       have cF:=fun X=>RRk.Fields x fx rx X
       have cL:∀ (X:World) (v:Value),HoldsS X v (fieldsK x)→Calls Tryz.prog 146 #[.string ⟨#[76,105,110,107]⟩,v] X fun e w'=>e= .returned (.string (ofL ((Ln.link x).bytes++[10])))∧X=w':=fun X v h=>by
        have:=line h (by simp [fieldsK]) (by simp [fieldsK]) (clean_link rx) linkW (by decide)
        rw [line_link] at this
        exact this
       obtain ⟨hg,hgs⟩:=grow (N:=132+i) HS.out hS hrx
       rw [← take_at (by rw [List.getElem?_map,hx];rfl)] at hg
       have hbs:=bytes_size hrx
       unfold LinkV.cells at cF
       generalize ofL ((Ln.link x).bytes++[10])=L at *
       have cat1:=fun W=>run_string_add_sum (P:=Tryz.prog) W S L (by omega)
       have t1:¬(9223372036854775807<S.size+L.size):=by omega
       have CF:=Lib.hid cF;have CL:=Lib.hid cL;have HG:=Lib.hid hg;have HGS:=Lib.hid hgs
       clear d1 hx fx rx hrx cF cL hg hgs HS
       have q1:(i:Int)<(nl:Int):=by omega
       go_wp2_with (first
        |(go_at_call 148;refine (CF.out _).mono ?_;rintro e w3 ⟨v3,rfl,hv3,hb3⟩)
        |(go_at_call 146;refine (CL.out _ _ hv3).mono ?_;rintro e w' ⟨rfl,rfl⟩))
       go_roundw
       case rel=>exact ⟨i+1,S++L,by go_num,rfl,by omega,bcq,HGS.out,HG.out⟩
       case measure=>simp [intOf];omega
      ·obtain rfl:i=nl:=by omega
       have hS1:S=R:=by
        rw [HS.out,HRR.out,List.take_of_length_le (by rw [List.length_map, ←HNL.out];exact Nat.le_refl _),List.append_assoc]
       subst hS1
       go_wp2
       go_ret2
       exact ⟨rfl,hbw6⟩
end RWr
end
end Go.Proofs.YtgmfojgnjdpofaaGreatDoor
