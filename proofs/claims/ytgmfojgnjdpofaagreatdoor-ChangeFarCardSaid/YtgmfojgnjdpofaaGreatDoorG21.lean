import Derived.Test.YtgmfojgnjdpofaaGreatDoorG18
import Derived.Test.YtgmfojgnjdpofaaGreatDoorG20
namespace Go.Proofs.YtgmfojgnjdpofaaGreatDoor
section
open Go.RowKit NB
namespace RRu
open Rd RWd RNu RAm RDs RAt RYe
theorem letter_back {s:ByteArray} (h:Fmt.letterOK s=true):Fmt.letS (Fmt.ltext s)=s∧Fmt.letE (Fmt.ltext s)=0:=by
 unfold Fmt.ltext
 by_cases h0:s.toList=[]
 ·rw [if_pos h0]
  refine ⟨?_,by decide +kernel⟩
  rw [empty_of h0]
  decide +kernel
 ·rw [if_neg h0,if_pos h]
  obtain ⟨h1,h2⟩:=(Fmt.letter_ok h0).1 h
  refine ⟨?_,h1⟩
  unfold Fmt.letE at h1
  rw [if_neg h2] at h1
  unfold Fmt.letS
  rw [if_neg]
  rintro (g|g|g|g)
  ·exact h2 g
  ·rw [if_pos g] at h1;cases h1
  ·exact h0 g
  ·by_cases g6:6<s.size
   ·rw [if_pos g6] at h1;cases h1
   ·rw [if_neg g6,if_pos (.inr g)] at h1;cases h1
theorem Day (o:Rd.OnV) (m:Int) (hf:Day.fits o.kind o.week o.day m=true) (w:World):Calls Tryz.prog 310 #[.string (textOn o),.int .i64 m] w fun e w'=>e= .returned (.tuple #[onV o,.int .i64 0])∧Below w.heap.size w w':=by
 obtain ⟨hr,_,_⟩:=fits_of hf
 have ho:=readOn_textOn o hr
 have hsz:=(clean_on (o:=o) hr).2
 have c1:=fun W=>ORead (textOn o) (by omega) (by rw [ho]) W
 rw [ho] at c1
 have c2:=fun W=>RDay.Fits o.kind o.week o.day m W
 rw [hf] at c2
 unfold onV at *
 obtain ⟨k,wk,d⟩:=o
 dsimp only at *
 generalize textOn ⟨k,wk,d⟩=T at *
 have C1:=Lib.hid c1;have C2:=Lib.hid c2
 clear c1 c2 hf hr ho
 go_enter Tryz.func310,Tryz.ntmps310
 go_wp2_with (first
  |(go_at_call 332;(with_reducible refine (C1.out _).mono ?_);rintro e w1 ⟨rfl,hb1⟩;obtain ⟨hc1_0,hf1_0,hz1_0⟩:=bcs hb1 (w.heap.size))
  |(go_at_call 236;(with_reducible refine (C2.out _).mono ?_);rintro e w2 ⟨rfl,hb2⟩;obtain ⟨hc2_0,hf2_0,hz2_0⟩:=bcs hb2 (w.heap.size);obtain ⟨hc2_1,hf2_1,hz2_1⟩:=bcs hb2 (w1.heap.size)))
 refine bodyPost_ret (v:= .tuple #[.agg #[.int .i64 k,.int .i64 wk,.int .i64 d],.int .i64 0]) ?_ rfl ⟨rfl,?_⟩
 ·simp only [results,Tryz.results310]
  go_simp
 ·exact bcq
theorem Save (n:Int) (h0: -10800≤n) (h1:n≤10800) (w:World):Calls Tryz.prog 312 #[.string (ofL (textA n))] w fun e w'=>e= .returned (.tuple #[.int .i64 n,.int .i64 0])∧Below w.heap.size w w':=by
 have hr:=readA_textA n (by omega) (by omega)
 have hsz:=(clean_amount (n:=n) (by omega) (by omega)).2
 have c1:=fun W=>RAm.Read (ofL (textA n)) (by omega) (by rw [hr]) W
 rw [hr] at c1
 generalize ofL (textA n)=T at *
 have C1:=Lib.hid c1
 clear c1 hr
 go_enter Tryz.func312,Tryz.ntmps312
 go_wp2_with (go_at_call 303;(with_reducible refine (C1.out _).mono ?_);rintro e w1 ⟨rfl,hb1⟩;obtain ⟨hc1,hf1⟩:=bcell hb1)
 go_ret2
 exact ⟨rfl,bcq⟩
set_option maxRecDepth 100000 in
set_option maxHeartbeats 6400000 in
theorem Fields (r:RuleV) (hfit:r.Fit) (hr:Rul.right r=true) (w:World):
 Calls Tryz.prog 145 #[.agg r.cells.toArray] w fun e w'=>∃ v,e= .returned (.tuple #[v,.int .i64 0])∧HoldsS w' v (fieldsR r)∧Below w.heap.size w w':=by
 obtain ⟨⟨h1,h2,h3⟩,h4,h5,h6,⟨h7,h8,h9,h10⟩,h11,h12⟩:=right_of hr
 obtain ⟨g1,g2,g3⟩:=fits_of h6
 have c0:=fun W=>RRule.Right r hfit W
 rw [hr] at c0
 have c1:=fun W=>FromText r.fr h1 (by omega) W
 have c2:=fun W=>ToText r.fr r.to (by omega) h3 h2 W
 have c3:=fun W=>OText ⟨r.kind,r.week,r.day⟩ g1 W
 have c4:=fun W=>AtText ⟨r.sec,r.base⟩ h9 h10 h7 h8 W
 have c5:=fun W=>AText r.save (by omega) (by omega) W
 have c6:=fun W=>RRule.LetterText r.letter hfit.l W
 rw [h4,if_pos rfl] at c6
 have c7:=fun W=>MonthText r.month g2 g3 W
 unfold onV at c3
 unfold atV at c4
 unfold fieldsR
 obtain ⟨name,fr,tt,month,kind,week,day,sec,base,save,letter⟩:=r
 unfold RuleV.cells at *
 dsimp only at *
 generalize textFrom fr=X1 at *
 generalize textTo fr tt=X2 at *
 generalize textM month=X3 at *
 generalize textOn ⟨kind,week,day⟩=X4 at *
 generalize textAt ⟨sec,base⟩=X5 at *
 generalize ofL (textA save)=X6 at *
 generalize Fmt.ltext letter=X7 at *
 have C0:=Lib.hid c0;have C1:=Lib.hid c1;have C2:=Lib.hid c2;have C3:=Lib.hid c3;have C4:=Lib.hid c4;have C5:=Lib.hid c5;have C6:=Lib.hid c6;have C7:=Lib.hid c7
 clear c0 c1 c2 c3 c4 c5 c6 c7 hr hfit h1 h2 h3 h4 h5 h6 h7 h8 h9 h10 h11 h12 g1 g2 g3
 have hb0:=Box.new w #[.string name,.int .i64 fr,.int .i64 tt,.int .i64 month,.int .i64 kind,.int .i64 week,.int .i64 day,.int .i64 sec,.int .i64 base,.int .i64 save,.string letter] 57
 go_enter Tryz.func145,Tryz.ntmps145
 go_upto_region 9 with (first
  |(go_at_call 194;(with_reducible refine (C0.out _).mono ?_);rintro e w1 ⟨rfl,hb1⟩;obtain ⟨hc1_0,hf1_0,hz1_0⟩:=bcs hb1 (w.heap.size))
  |(go_at_call 196;(with_reducible refine (C1.out _).mono ?_);rintro e w2 ⟨rfl,hb2⟩;obtain ⟨hc2_0,hf2_0,hz2_0⟩:=bcs hb2 (w.heap.size))
  |(go_at_call 197;(with_reducible refine (C2.out _).mono ?_);rintro e w3 ⟨rfl,hb3⟩;obtain ⟨hc3_0,hf3_0,hz3_0⟩:=bcs hb3 (w.heap.size))
  |(go_at_call 198;(with_reducible refine (C3.out _).mono ?_);rintro e w4 ⟨rfl,hb4⟩;obtain ⟨hc4_0,hf4_0,hz4_0⟩:=bcs hb4 (w.heap.size))
  |(go_at_call 199;(with_reducible refine (C4.out _).mono ?_);rintro e w5 ⟨rfl,hb5⟩;obtain ⟨hc5_0,hf5_0,hz5_0⟩:=bcs hb5 (w.heap.size))
  |(go_at_call 200;(with_reducible refine (C5.out _).mono ?_);rintro e w6 ⟨rfl,hb6⟩;obtain ⟨hc6_0,hf6_0,hz6_0⟩:=bcs hb6 (w.heap.size))
  |(go_at_call 201;(with_reducible refine (C6.out _).mono ?_);rintro e w7 ⟨rfl,hb7⟩;obtain ⟨hc7_0,hf7_0,hz7_0⟩:=bcs hb7 (w.heap.size)))
 have D:=((((((hb0.later hb1).later hb2).later hb3).later hb4).later hb5).later hb6).later hb7
 have HF:=Lib.hid (fun (V:World) (hV:Below w7.heap.size w7 V)=>(D.later hV).cell)
 have HB:=Lib.hid (show Below w.heap.size w w7 from bcq)
 have hm0:=D.lt
 clear D hb0 hb1 hb2 hb3 hb4 hb5 hb6 hb7 hc1_0 hf1_0 hz1_0 hc2_0 hf2_0 hz2_0 hc3_0 hf3_0 hz3_0 hc4_0 hf4_0 hz4_0 hc5_0 hf5_0 hz5_0 hc6_0 hf6_0 hz6_0 hc7_0 hf7_0 hz7_0
 go_region_held3 (fun w'=>∀ j,w'.cell? ⟨w.heap.size,j,none⟩=(#[.string name,.int .i64 fr,.int .i64 tt,.int .i64 month,.int .i64 kind,.int .i64 week,.int .i64 day,.int .i64 sec,.int .i64 base,.int .i64 save,.string letter]:Array Value)[j]?) ((refine HF.out _ ?_;exact bcq)) (first
  |(go_at_call 202;(with_reducible refine (C7.out _).mono ?_);rintro e w8 ⟨rfl,hb8⟩;obtain ⟨hc8,hf8⟩:=bcell hb8))
 go_wp2
 go_ret2
 exact ⟨_,rfl,HoldsS.of_box (l:=[name,X1,X2,⟨#[45]⟩,X3,X4,X5,X6,X7]) (Box.new _ _ _) rfl (by simp),HB.out.trans (Below.mono bcq HB.out.size)⟩
end RRu
end
section
open Go.RowKit NB
namespace RRu
open Rd RWd RNu RAm RDs RAt RYe
set_option maxRecDepth 100000 in
set_option maxHeartbeats 6400000 in
theorem Read (r:RuleV) (hfit:r.Fit) (hr:Rul.right r=true) {w:World} {v:Value} (hv:HoldsS w v (fieldsR r)):
 Calls Tryz.prog 293 #[v] w fun e w'=>e= .returned (.tuple #[.agg r.cells.toArray,.int .i64 0])∧Below w.heap.size w w':=by
 obtain ⟨⟨h1,h2,h3⟩,h4,h5,h6,⟨h7,h8,h9,h10⟩,h11,h12⟩:=right_of hr
 obtain ⟨g1,g2,g3⟩:=fits_of h6
 have c1:=fun W=>From r.fr h1 (by omega) W
 have c2:=fun W=>To r.fr r.to (by omega) h3 h2 W
 have hsm:=(clean_month g2 g3).2
 have c3:=fun W=>Month (textM r.month) (by omega) W
 rw [readM_textM r.month g2 g3] at c3
 have c4:=fun W=>Day ⟨r.kind,r.week,r.day⟩ r.month h6 W
 have c5:=fun W=>AtRead ⟨r.sec,r.base⟩ h9 h10 h7 h8 W
 have c6:=fun W=>Save r.save h11 h12 W
 have hls:=(clean_letter h4).2
 have c7:=fun W=>RRule.Letter (Fmt.ltext r.letter) (by omega) W
 rw [(letter_back h4).1,(letter_back h4).2] at c7
 have c8:=fun W=>RRule.Name r.name hfit.n W
 rw [h5] at c8
 unfold onV at c4
 unfold atV at c5
 obtain ⟨p,cap,hv1,hp⟩:=hv.pk1
 rw [show (fieldsR r).length=9 from rfl] at hv1
 subst hv1
 unfold fieldsR at hp
 obtain ⟨name,fr,tt,month,kind,week,day,sec,base,save,letter⟩:=r
 unfold RuleV.cells at *
 dsimp only at *
 generalize textFrom fr=X1 at *
 generalize textTo fr tt=X2 at *
 generalize textM month=X3 at *
 generalize textOn ⟨kind,week,day⟩=X4 at *
 generalize textAt ⟨sec,base⟩=X5 at *
 generalize ofL (textA save)=X6 at *
 generalize Fmt.ltext letter=X7 at *
 obtain ⟨b,o,rfl,hb,d0⟩:=hp 0 _ rfl
 have d1:w.cell? ⟨b,o+1,none⟩=some (.string X1):=by obtain ⟨_,_,e,_,d⟩:=hp 1 _ rfl;cases e;exact d
 have d2:w.cell? ⟨b,o+2,none⟩=some (.string X2):=by obtain ⟨_,_,e,_,d⟩:=hp 2 _ rfl;cases e;exact d
 have d3:w.cell? ⟨b,o+3,none⟩=some (.string ⟨#[45]⟩):=by obtain ⟨_,_,e,_,d⟩:=hp 3 _ rfl;cases e;exact d
 have d4:w.cell? ⟨b,o+4,none⟩=some (.string X3):=by obtain ⟨_,_,e,_,d⟩:=hp 4 _ rfl;cases e;exact d
 have d5:w.cell? ⟨b,o+5,none⟩=some (.string X4):=by obtain ⟨_,_,e,_,d⟩:=hp 5 _ rfl;cases e;exact d
 have d6:w.cell? ⟨b,o+6,none⟩=some (.string X5):=by obtain ⟨_,_,e,_,d⟩:=hp 6 _ rfl;cases e;exact d
 have d7:w.cell? ⟨b,o+7,none⟩=some (.string X6):=by obtain ⟨_,_,e,_,d⟩:=hp 7 _ rfl;cases e;exact d
 have d8:w.cell? ⟨b,o+8,none⟩=some (.string X7):=by obtain ⟨_,_,e,_,d⟩:=hp 8 _ rfl;cases e;exact d
 rw [Nat.add_zero] at d0
 have C1:=Lib.hid c1;have C2:=Lib.hid c2;have C3:=Lib.hid c3;have C4:=Lib.hid c4;have C5:=Lib.hid c5;have C6:=Lib.hid c6;have C7:=Lib.hid c7;have C8:=Lib.hid c8
 clear c1 c2 c3 c4 c5 c6 c7 c8 hr hfit h1 h2 h3 h4 h5 h6 h7 h8 h9 h10 h11 h12 g1 g2 g3 hp hv hsm hls
 have DW:Hid (∀ V,Below w.heap.size w V→V.cell? ⟨b,o,none⟩=some (.string name)∧V.cell? ⟨b,o+1,none⟩=some (.string X1)∧V.cell? ⟨b,o+2,none⟩=some (.string X2)∧V.cell? ⟨b,o+3,none⟩=some (.string ⟨#[45]⟩)∧V.cell? ⟨b,o+4,none⟩=some (.string X3)∧V.cell? ⟨b,o+5,none⟩=some (.string X4)∧V.cell? ⟨b,o+6,none⟩=some (.string X5)∧V.cell? ⟨b,o+7,none⟩=some (.string X6)∧V.cell? ⟨b,o+8,none⟩=some (.string X7)):=fun V hV=>
  ⟨(hV.cell (p:=⟨b,o,none⟩) hb).trans d0,(hV.cell (p:=⟨b,o+1,none⟩) hb).trans d1,(hV.cell (p:=⟨b,o+2,none⟩) hb).trans d2,(hV.cell (p:=⟨b,o+3,none⟩) hb).trans d3,(hV.cell (p:=⟨b,o+4,none⟩) hb).trans d4,(hV.cell (p:=⟨b,o+5,none⟩) hb).trans d5,(hV.cell (p:=⟨b,o+6,none⟩) hb).trans d6,(hV.cell (p:=⟨b,o+7,none⟩) hb).trans d7,(hV.cell (p:=⟨b,o+8,none⟩) hb).trans d8⟩
 go_enter Tryz.func293,Tryz.ntmps293
 go_wp2_with (first
  |(go_at_call 307;(with_reducible refine (C1.out _).mono ?_);rintro e w1 ⟨rfl,hb1⟩;obtain ⟨hc1_0,hf1_0,hz1_0⟩:=bcs hb1 (w.heap.size);obtain ⟨hc1_1,hf1_1,hz1_1⟩:=bcs hb1 (b))
  |(go_at_call 308;(with_reducible refine (C2.out _).mono ?_);rintro e w2 ⟨rfl,hb2⟩;obtain ⟨hc2_0,hf2_0,hz2_0⟩:=bcs hb2 (w.heap.size);obtain ⟨hc2_1,hf2_1,hz2_1⟩:=bcs hb2 (b))
  |(go_at_call 309;(with_reducible refine (C3.out _).mono ?_);rintro e w3 ⟨rfl,hb3⟩;obtain ⟨hc3_0,hf3_0,hz3_0⟩:=bcs hb3 (w.heap.size);obtain ⟨hc3_1,hf3_1,hz3_1⟩:=bcs hb3 (b))
  |(go_at_call 310;(with_reducible refine (C4.out _).mono ?_);rintro e w4 ⟨rfl,hb4⟩;obtain ⟨hc4_0,hf4_0,hz4_0⟩:=bcs hb4 (w.heap.size);obtain ⟨hc4_1,hf4_1,hz4_1⟩:=bcs hb4 (b))
  |(go_at_call 311;(with_reducible refine (C5.out _).mono ?_);rintro e w5 ⟨rfl,hb5⟩;obtain ⟨hc5_0,hf5_0,hz5_0⟩:=bcs hb5 (w.heap.size);obtain ⟨hc5_1,hf5_1,hz5_1⟩:=bcs hb5 (b);obtain ⟨hc5_2,hf5_2,hz5_2⟩:=bcs hb5 (w4.heap.size))
  |(go_at_call 312;(with_reducible refine (C6.out _).mono ?_);rintro e w6 ⟨rfl,hb6⟩;obtain ⟨hc6_0,hf6_0,hz6_0⟩:=bcs hb6 (w.heap.size);obtain ⟨hc6_1,hf6_1,hz6_1⟩:=bcs hb6 (b);obtain ⟨hc6_2,hf6_2,hz6_2⟩:=bcs hb6 (w4.heap.size);obtain ⟨hc6_3,hf6_3,hz6_3⟩:=bcs hb6 (w5.heap.size))
  |(go_at_call 250;(with_reducible refine (C7.out _).mono ?_);rintro e w7 ⟨rfl,hb7⟩;obtain ⟨hc7_0,hf7_0,hz7_0⟩:=bcs hb7 (w.heap.size);obtain ⟨hc7_1,hf7_1,hz7_1⟩:=bcs hb7 (b);obtain ⟨hc7_2,hf7_2,hz7_2⟩:=bcs hb7 (w4.heap.size);obtain ⟨hc7_3,hf7_3,hz7_3⟩:=bcs hb7 (w5.heap.size))
  |(go_at_call 175;(with_reducible refine (C8.out _).mono ?_);rintro e w' ⟨rfl,rfl⟩))
 obtain ⟨W8,hW8⟩:∃ V,V=w7.alloc (.cells #[.int .i64 0,.int .i64 0,.int .i64 0,.int .i64 0,.int .i64 0,.int .i64 0,.int .i64 0,.int .i64 0,.int .i64 0] 31):=⟨_,rfl⟩
 have hbE:Box W8 w7.heap.size #[.int .i64 0,.int .i64 0,.int .i64 0,.int .i64 0,.int .i64 0,.int .i64 0,.int .i64 0,.int .i64 0,.int .i64 0] 31:=by rw [hW8];exact Box.new _ _ _
 have hbR:Box W8 w.heap.size #[.string ⟨#[]⟩,.int .i64 0,.int .i64 0,.int .i64 0,.int .i64 0,.int .i64 0,.int .i64 0,.int .i64 0,.int .i64 0,.int .i64 0,.string ⟨#[]⟩] 57:=by
  rw [hW8]
  exact ((((((((Box.new w _ _).later hb1).later hb2).later hb3).later hb4).old.later hb5).old.later hb6).later hb7).old
 have hbO:Box W8 w4.heap.size #[.int .i64 kind,.int .i64 week,.int .i64 day] 47:=by
  rw [hW8]
  exact (((Box.new w4 _ _).later hb5).old.later hb6).later hb7 |>.old
 have hbA:Box W8 w5.heap.size #[.int .i64 sec,.int .i64 base] 49:=by
  rw [hW8]
  exact ((Box.new w5 _ _).later hb6).later hb7 |>.old
 have hbw:Below w.heap.size w W8:=by rw [hW8];exact bcq
 have dn:=(DW.out W8 hbw).1
 rw [← hW8]
 have ha1:w.heap.size<w4.heap.size:=hz4_0
 have ha2:w4.heap.size<w5.heap.size:=hz5_2
 have ha3:w5.heap.size<w7.heap.size:=hz7_3
 clear hb1 hb2 hb3 hb4 hb5 hb6 hb7 hc1_0 hf1_0 hz1_0 hc2_0 hf2_0 hz2_0 hc3_0 hf3_0 hz3_0 hc4_0 hf4_0 hz4_0 hc5_0 hf5_0 hz5_0 hc6_0 hf6_0 hz6_0 hc7_0 hf7_0 hz7_0 hW8
 clear hc1_1 hf1_1 hz1_1 hc2_1 hf2_1 hz2_1 hc3_1 hf3_1 hz3_1 hc4_1 hf4_1 hz4_1 hc5_1 hf5_1 hz5_1 hc5_2 hf5_2 hz5_2 hc6_1 hf6_1 hz6_1 hc6_2 hf6_2 hz6_2 hc6_3 hf6_3 hz6_3 hc7_1 hf7_1 hz7_1 hc7_2 hf7_2 hz7_2 hc7_3 hf7_3 hz7_3
 clear d0 d1 d2 d3 d4 d5 d6 d7 d8
 generalize w4.heap.size=qO at *
 generalize w5.heap.size=qA at *
 generalize w7.heap.size=qE at *
 go_loop [98] (fun i=>∃ k:Nat,k≤9∧i= .int .i64 k) (fun i=>9-(intOf i).toNat)
 case atStart=>exact ⟨0,Nat.zero_le _,rfl⟩
 case round=>
  obtain ⟨k,hk,rfl⟩:=hrel
  by_cases hlt:k<9
  ·have hk0:W8.cell? ⟨qE,k,none⟩=some (.int .i64 0):=by
    rw [hbE.cell]
    rcases (by omega:k=0∨k=1∨k=2∨k=3∨k=4∨k=5∨k=6∨k=7∨k=8) with rfl|rfl|rfl|rfl|rfl|rfl|rfl|rfl|rfl
    all_goals rfl
   have q1:(k:Int)<9:=by omega
   go_wp2
   go_round
   case rel=>exact ⟨k+1,by omega,by go_num⟩
   case measure=>simp [intOf];omega
  ·obtain rfl:k=9:=by omega
   have cR:=hbR.cell
   have cO:=hbO.cell
   have cA:=hbA.cell
   have n1:qO≠w.heap.size:=by omega
   have n2:qA≠w.heap.size:=by omega
   have n3:b≠w.heap.size:=by omega
   have fR:=hbR.free
   have fO:=hbO.free
   have fA:=hbA.free
   have lR:=hbR.lt
   go_upto_region 21 with fail
   go_region
   go_wp2
   refine bodyPost_ret (v:= .tuple #[.agg #[.string name,.int .i64 fr,.int .i64 tt,.int .i64 month,.int .i64 kind,.int .i64 week,.int .i64 day,.int .i64 sec,.int .i64 base,.int .i64 save,.string letter],.int .i64 0]) ?_ rfl ⟨rfl,?_⟩
   ·simp only [results,Tryz.results293]
    go_simp
   ·exact bcq
end RRu
end
end Go.Proofs.YtgmfojgnjdpofaaGreatDoor
