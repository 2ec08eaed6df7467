import Derived.Test.YtgmfojgnjdpofaaGreatDoorG33
namespace Go.Proofs.YtgmfojgnjdpofaaGreatDoor
open Go.RowKit NB
namespace L35
open Pt Chg L34
abbrev tw (a b c d:Nat):TabV:=two (.slice (some ⟨a,0,none⟩) 2 2) (.slice (some ⟨b,0,none⟩) 2 2) (.slice (some ⟨c,0,none⟩) 2 2) (.slice (some ⟨d,0,none⟩) 1 1)
abbrev twA (a b:Nat):Value:= .agg #[.slice (some ⟨a,0,none⟩) 2 2,.slice (some ⟨b,0,none⟩) 2 2,.slice none 0 0]
theorem next_c {w:World} {a b c d:Nat} (hx:HoldsT w (tw a b c d)) (tb:Tab w) (hst:Sta w) {zone s:Int} {n:Int} {k:Bool} (hs:I64 s) (h:∀ rv zv va ve,NextT (two rv zv va ve) zone s (n,k)):
 Calls Tryz.prog 17 #[twA a b,.int .i64 zone,.int .i64 s] w fun e w'=>e= .returned (.tuple #[.int .i64 n,.bool k])∧Below w.heap.size w w':=
 (NextA hx (ok_two _ _ _ _) tb hst chk zone s hs (h _ _ _ _)).mono fun _ _ h=>⟨h.1,h.2.1⟩
theorem prev_c {w:World} {a b c d:Nat} (hx:HoldsT w (tw a b c d)) (tb:Tab w) (hst:Sta w) {zone s:Int} {n:Int} {k:Bool} (hs:I64 s) (h:∀ rv zv va ve,PrevT (two rv zv va ve) zone s (n,k)):
 Calls Tryz.prog 18 #[twA a b,.int .i64 zone,.int .i64 s] w fun e w'=>e= .returned (.tuple #[.int .i64 n,.bool k])∧Below w.heap.size w w':=
 PrevA hx (ok_two _ _ _ _) tb hst chk zone s hs (h _ _ _ _)
theorem count_c {w:World} {a b c d:Nat} (hx:HoldsT w (tw a b c d)) (tb:Tab w) (hst:Sta w) {zone fr tt most N:Int} (hfr:I64 fr) (hm:most≤100000) (h:∀ rv zv va ve,∃ xs,Runs (two rv zv va ve) zone (max fr (-1096193779199)-1) xs∧(if fr<tt∧1≤most then (cnt tt most.toNat xs:Int) else 0)=N):
 Calls Tryz.prog 20 #[twA a b,.int .i64 zone,.agg #[.int .i64 fr,.int .i64 tt],.int .i64 most] w fun e w'=>e= .returned (.int .i64 N)∧Below w.heap.size w w':=by
 obtain ⟨xs,h1,h2⟩:=h (.slice (some ⟨a,0,none⟩) 2 2) (.slice (some ⟨b,0,none⟩) 2 2) (.slice (some ⟨c,0,none⟩) 2 2) (.slice (some ⟨d,0,none⟩) 1 1)
 have:=CountC hx (ok_two _ _ _ _) tb hst chk zone fr tt most hfr hm h1
 rw [h2] at this
 exact this
theorem tail (rv zv va ve:Value) (zone s:Int):∃ xs,Runs (two rv zv va ve) zone s xs:=runs_total (ok_two rv zv va ve) chk zone _ s (Nat.le_refl _)
theorem k1 (rv zv va ve:Value):∃ xs,Runs (two rv zv va ve) 1 (max 1710054000 (-1096193779199)-1) xs∧(if (1710054000:Int)<1730613601∧(1:Int)≤9 then (cnt 1730613601 (9:Int).toNat xs:Int) else 0)=2:=by
 obtain ⟨ys,h⟩:=tail rv zv va ve 1 1730613600
 exact ⟨_,runs2 rv zv va ve h,by rw [if_pos (by decide)];exact congrArg Int.ofNat (cnt2 (ok_two rv zv va ve) chk h)⟩
theorem k2 (rv zv va ve:Value):∃ xs,Runs (two rv zv va ve) 1 (max 1710054001 (-1096193779199)-1) xs∧(if (1710054001:Int)<1730613600∧(1:Int)≤9 then (cnt 1730613600 (9:Int).toNat xs:Int) else 0)=0:=by
 obtain ⟨ys,h⟩:=tail rv zv va ve 1 1730613600
 exact ⟨_,runs1 rv zv va ve h,by rw [if_pos (by decide)];exact congrArg Int.ofNat (cnt0 ys)⟩
theorem k3 (rv zv va ve:Value):∃ xs,Runs (two rv zv va ve) 1 (max (-9223372036854775808) (-1096193779199)-1) xs∧(if (-9223372036854775808:Int)<9223372036854775807∧(1:Int)≤7 then (cnt 9223372036854775807 (7:Int).toNat xs:Int) else 0)=7:=by
 obtain ⟨ys,h⟩:=tail rv zv va ve 1 1268550000
 exact ⟨_,runs7 rv zv va ve h,by rw [if_pos (by decide)];exact congrArg Int.ofNat (cnt7 ys)⟩
theorem k4 (rv zv va ve:Value):∃ xs,Runs (two rv zv va ve) 0 (max (-9223372036854775808) (-1096193779199)-1) xs∧(if (-9223372036854775808:Int)<9223372036854775807∧(1:Int)≤7 then (cnt 9223372036854775807 (7:Int).toNat xs:Int) else 0)=1:=⟨_,runsA rv zv va ve,by rw [if_pos (by decide)];exact congrArg Int.ofNat cntA⟩
theorem k5 (rv zv va ve:Value):∃ xs,Runs (two rv zv va ve) 0 (max 0 (-1096193779199)-1) xs∧(if (0:Int)<0∧(1:Int)≤7 then (cnt 0 (7:Int).toNat xs:Int) else 0)=0:=by
 obtain ⟨ys,h⟩:=tail rv zv va ve 0 (max 0 (-1096193779199)-1)
 exact ⟨ys,h,by rw [if_neg (by decide)]⟩
theorem k6 (rv zv va ve:Value):∃ xs,Runs (two rv zv va ve) 0 (max 0 (-1096193779199)-1) xs∧(if (0:Int)<1∧(1:Int)≤ -1 then (cnt 1 (-1:Int).toNat xs:Int) else 0)=0:=by
 obtain ⟨ys,h⟩:=tail rv zv va ve 0 (max 0 (-1096193779199)-1)
 exact ⟨ys,h,by rw [if_neg (by decide)]⟩
theorem one_h {W:World} {rv:Value} {b c:Nat} {t2 t3:TypeId} (h1:Holds W rv [Us.us0,Us.us1]) (h2:Box W b #[.string ⟨#[65]⟩,.slice (some ⟨c,0,none⟩) 2 2] t2) (h3:Box W c #[.int .i64 3600,.int .i64 0,.int .i64 0,.string ⟨#[]⟩,.string ⟨#[37,122]⟩,.bool true,.int .i64 1950,.int .i64 1,.int .i64 0,.int .i64 0,.int .i64 1,.int .i64 0,.int .i64 0,.int .i64 3600,.int .i64 0,.int .i64 0,.string ⟨#[]⟩,.string ⟨#[37,122]⟩,.bool false,.int .i64 0,.int .i64 0,.int .i64 0,.int .i64 0,.int .i64 0,.int .i64 0,.int .i64 0] t3):
 HoldsT W (one rv (.slice (some ⟨b,0,none⟩) 1 1) (.slice (some ⟨c,0,none⟩) 2 2)):=by
 refine ⟨h1,of_boxG (k:=2) (f:=ZoneV.cells) (fun _=>rfl) 1 (l:=[zU (.slice (some ⟨c,0,none⟩) 2 2)]) h2 rfl rfl (by simp) 1,?_,⟨.inl ⟨_,_,rfl,rfl⟩,by show (0:Nat)≤_;decide⟩,fun x hx=>by cases hx⟩
 intro z hz
 rcases List.mem_cons.1 hz with rfl|hz
 ·refine ⟨by show (1:Nat)≤_;decide,⟨(of_boxG (k:=13) (f:=EraV.cells) (fun _=>rfl) 2 (l:=[uA,uB]) h3 rfl rfl (by decide) 2).lies,?_,by show (2:Nat)≤_;decide⟩⟩
  intro e he
  simp only [zU,List.mem_cons,List.not_mem_nil,or_false] at he
  rcases he with rfl|rfl
  ·exact fit_uA
  ·exact fit_uB
 ·cases hz
theorem ok_one (rv zv va:Value):Ok (one rv zv va) where
 good:=by
  intro z hz
  rcases List.mem_cons.1 hz with rfl|hz
  ·exact goodU
  ·cases hz
 lets:=by
  intro x hx
  simp only [one,List.mem_cons,List.not_mem_nil,or_false] at hx
  rcases hx with rfl|rfl<;>decide
 rn:=by show (2:Nat)≤_;decide
 zn:=by show (1:Nat)≤_;decide
 en:=by
  intro z hz
  rcases List.mem_cons.1 hz with rfl|hz
  ·show (2:Nat)≤_;decide
  ·cases hz
theorem one_c {W:World} {a b c:Nat} (h:HoldsT W (one (.slice (some ⟨a,0,none⟩) 2 2) (.slice (some ⟨b,0,none⟩) 1 1) (.slice (some ⟨c,0,none⟩) 2 2))) (tb:Tab W) (hst:Sta W):
 Calls Tryz.prog 17 #[.agg #[.slice (some ⟨a,0,none⟩) 2 2,.slice (some ⟨b,0,none⟩) 1 1,.slice none 0 0],.int .i64 0,.int .i64 (-1096193779200)] W fun e w'=>e= .returned (.tuple #[.int .i64 0,.bool false])∧Below W.heap.size W w':=
 (NextA h (ok_one _ _ _) tb hst chk 0 (-1096193779200) (by unfold I64;decide) (n9 _ _ _)).mono fun _ _ h=>⟨h.1,h.2.1⟩
set_option maxRecDepth 100000 in
set_option maxHeartbeats 6400000 in
theorem lives (w:World) (tb:Tab w) (hst:Sta w):Calls Tryz.prog 14 #[] w fun e w'=>e= .returned (.bool true)∧Below w.heap.size w w':=by
 have cT:=Two
 have HTB:=Lib.hid tb
 have HST:=Lib.hid hst
 have m1:=fun (a b c d:Nat) (W:World) (h:HoldsT W (tw a b c d)) (tb:Tab W) (hst:Sta W)=>next_c h tb hst (by unfold I64;decide) n1
 have m2:=fun (a b c d:Nat) (W:World) (h:HoldsT W (tw a b c d)) (tb:Tab W) (hst:Sta W)=>prev_c h tb hst (by unfold I64;decide) p2
 have m3:=fun (a b c d:Nat) (W:World) (h:HoldsT W (tw a b c d)) (tb:Tab W) (hst:Sta W)=>prev_c h tb hst (by unfold I64;decide) p3
 have m4:=fun (a b c d:Nat) (W:World) (h:HoldsT W (tw a b c d)) (tb:Tab W) (hst:Sta W)=>next_c h tb hst (by unfold I64;decide) n4
 have m5:=fun (a b c d:Nat) (W:World) (h:HoldsT W (tw a b c d)) (tb:Tab W) (hst:Sta W)=>next_c h tb hst (by unfold I64;decide) nE
 have m6:=fun (a b c d:Nat) (W:World) (h:HoldsT W (tw a b c d)) (tb:Tab W) (hst:Sta W)=>prev_c h tb hst (by unfold I64;decide) p6
 have m7:=fun (a b c d:Nat) (W:World) (h:HoldsT W (tw a b c d)) (tb:Tab W) (hst:Sta W)=>next_c h tb hst (by unfold I64;decide) n7
 have m8:=fun (a b c d:Nat) (W:World) (h:HoldsT W (tw a b c d)) (tb:Tab W) (hst:Sta W)=>prev_c h tb hst (by unfold I64;decide) p8
 have q1:=fun (a b c d:Nat) (W:World) (h:HoldsT W (tw a b c d)) (tb:Tab W) (hst:Sta W)=>count_c h tb hst (by unfold I64;decide) (by decide) k1
 have q2:=fun (a b c d:Nat) (W:World) (h:HoldsT W (tw a b c d)) (tb:Tab W) (hst:Sta W)=>count_c h tb hst (by unfold I64;decide) (by decide) k2
 have q3:=fun (a b c d:Nat) (W:World) (h:HoldsT W (tw a b c d)) (tb:Tab W) (hst:Sta W)=>count_c h tb hst (by unfold I64;decide) (by decide) k3
 have q4:=fun (a b c d:Nat) (W:World) (h:HoldsT W (tw a b c d)) (tb:Tab W) (hst:Sta W)=>count_c h tb hst (by unfold I64;decide) (by decide) k4
 have q5:=fun (a b c d:Nat) (W:World) (h:HoldsT W (tw a b c d)) (tb:Tab W) (hst:Sta W)=>count_c h tb hst (by unfold I64;decide) (by decide) k5
 have q6:=fun (a b c d:Nat) (W:World) (h:HoldsT W (tw a b c d)) (tb:Tab W) (hst:Sta W)=>count_c h tb hst (by unfold I64;decide) (by decide) k6
 have u9:=fun (a b c:Nat) (W:World) (h:HoldsT W (one (.slice (some ⟨a,0,none⟩) 2 2) (.slice (some ⟨b,0,none⟩) 1 1) (.slice (some ⟨c,0,none⟩) 2 2))) (tb:Tab W) (hst:Sta W)=>one_c h tb hst
 have Q1:=Lib.hid q1;have Q2:=Lib.hid q2;have Q3:=Lib.hid q3;have Q4:=Lib.hid q4;have Q5:=Lib.hid q5;have Q6:=Lib.hid q6;have U9:=Lib.hid u9
 clear q1 q2 q3 q4 q5 q6 u9
 have M1:=Lib.hid m1;have M2:=Lib.hid m2;have M3:=Lib.hid m3;have M4:=Lib.hid m4;have M5:=Lib.hid m5;have M6:=Lib.hid m6;have M7:=Lib.hid m7;have M8:=Lib.hid m8;have CT:=Lib.hid cT
 clear m1 m2 m3 m4 m5 m6 m7 m8 cT tb hst
 go_enter Tryz.func14,Tryz.ntmps14
 go_upto_region 2 with (go_at_call 47;(with_reducible refine (CT.out _).mono ?_);rintro e w1 ⟨a,b,c,d,rfl,hx,hb1⟩;have HX:=Lib.hid hx;clear hx)
 have hs1:w1.heap.size<w1.heap.size+1:=by omega
 go_upto_region 10 with (first
  |(go_at_call 17;(with_reducible refine (M1.out a b c d _ ?_ ?_ ?_).mono ?_);(· exact HX.out.later bcq);(· exact HTB.out.later bcq);(· exact HST.out.later bcq);rintro e w2 ⟨rfl,hb2⟩;obtain ⟨hc2_0,hf2_0,hz2_0⟩:=bcs hb2 (w1.heap.size))
  |(go_at_call 18;(with_reducible refine (M2.out a b c d _ ?_ ?_ ?_).mono ?_);(· exact HX.out.later bcq);(· exact HTB.out.later bcq);(· exact HST.out.later bcq);rintro e w3 ⟨rfl,hb3⟩;obtain ⟨hc3_0,hf3_0,hz3_0⟩:=bcs hb3 (w1.heap.size))
  |(go_at_call 18;(with_reducible refine (M3.out a b c d _ ?_ ?_ ?_).mono ?_);(· exact HX.out.later bcq);(· exact HTB.out.later bcq);(· exact HST.out.later bcq);rintro e w4 ⟨rfl,hb4⟩;obtain ⟨hc4_0,hf4_0,hz4_0⟩:=bcs hb4 (w1.heap.size))
  |(go_at_call 17;(with_reducible refine (M4.out a b c d _ ?_ ?_ ?_).mono ?_);(· exact HX.out.later bcq);(· exact HTB.out.later bcq);(· exact HST.out.later bcq);rintro e w5 ⟨rfl,hb5⟩;obtain ⟨hc5_0,hf5_0,hz5_0⟩:=bcs hb5 (w1.heap.size))
  |(go_at_call 17;(with_reducible refine (M5.out a b c d _ ?_ ?_ ?_).mono ?_);(· exact HX.out.later bcq);(· exact HTB.out.later bcq);(· exact HST.out.later bcq);rintro e w6 ⟨rfl,hb6⟩;obtain ⟨hc6_0,hf6_0,hz6_0⟩:=bcs hb6 (w1.heap.size))
  |(go_at_call 18;(with_reducible refine (M6.out a b c d _ ?_ ?_ ?_).mono ?_);(· exact HX.out.later bcq);(· exact HTB.out.later bcq);(· exact HST.out.later bcq);rintro e w7 ⟨rfl,hb7⟩;obtain ⟨hc7_0,hf7_0,hz7_0⟩:=bcs hb7 (w1.heap.size))
  |(go_at_call 17;(with_reducible refine (M7.out a b c d _ ?_ ?_ ?_).mono ?_);(· exact HX.out.later bcq);(· exact HTB.out.later bcq);(· exact HST.out.later bcq);rintro e w8 ⟨rfl,hb8⟩;obtain ⟨hc8_0,hf8_0,hz8_0⟩:=bcs hb8 (w1.heap.size))
  |(go_at_call 18;(with_reducible refine (M8.out a b c d _ ?_ ?_ ?_).mono ?_);(· exact HX.out.later bcq);(· exact HTB.out.later bcq);(· exact HST.out.later bcq);rintro e w9 ⟨rfl,hb9⟩;obtain ⟨hc9_0,hf9_0,hz9_0⟩:=bcs hb9 (w1.heap.size)))
 have h19:Below w1.heap.size w1 w9:=bcq
 have bT:=((((((((Box.new w1 #[.slice (some ⟨a,0,none⟩) 2 2,.slice (some ⟨b,0,none⟩) 2 2,.slice none 0 0] 26).later hb2).later hb3).later hb4).later hb5).later hb6).later hb7).later hb8).later hb9
 have HB9:=Lib.hid (bt hb1 h19)
 have HX9:=Lib.hid (HX.out.later h19)
 clear hc2_0 hf2_0 hz2_0 hc3_0 hf3_0 hz3_0 hc4_0 hf4_0 hz4_0 hc5_0 hf5_0 hz5_0 hc6_0 hf6_0 hz6_0 hc7_0 hf7_0 hz7_0 hc8_0 hf8_0 hz8_0 hc9_0 hf9_0 hz9_0 hb2 hb3 hb4 hb5 hb6 hb7 hb8 hb9 hb1 h19 hs1
 obtain ⟨pz,cz,e3,hpz⟩:=HX9.out.z.pk
 cases e3
 obtain ⟨g1,o1,e4,hg1,d1⟩:=hpz 0 (zA (.slice (some ⟨c,0,none⟩) 2 2)) rfl
 cases e4
 have z0:w9.cell? ⟨b,0,none⟩=some (.string ⟨#[65]⟩):=d1 0 _ rfl
 have z1:w9.cell? ⟨b,1,none⟩=some (.slice (some ⟨c,0,none⟩) 2 2):=d1 1 _ rfl
 obtain ⟨g2,o2,cq,e5,hg2,d2⟩:=(HX9.out.zf (zA (.slice (some ⟨c,0,none⟩) 2 2)) (by simp [two])).e.at (k:=0) (e:=eA) rfl
 cases e5
 have y0:w9.cell? ⟨c,0,none⟩=some (.int .i64 3600):=d2 0 _ rfl
 have y1:w9.cell? ⟨c,1,none⟩=some (.int .i64 0):=d2 1 _ rfl
 have y2:w9.cell? ⟨c,2,none⟩=some (.int .i64 0):=d2 2 _ rfl
 have y3:w9.cell? ⟨c,3,none⟩=some (.string ⟨#[]⟩):=d2 3 _ rfl
 have y4:w9.cell? ⟨c,4,none⟩=some (.string ⟨#[88]⟩):=d2 4 _ rfl
 have y5:w9.cell? ⟨c,5,none⟩=some (.bool true):=d2 5 _ rfl
 have y6:w9.cell? ⟨c,6,none⟩=some (.int .i64 1950):=d2 6 _ rfl
 have y7:w9.cell? ⟨c,7,none⟩=some (.int .i64 1):=d2 7 _ rfl
 have y8:w9.cell? ⟨c,8,none⟩=some (.int .i64 0):=d2 8 _ rfl
 have y9:w9.cell? ⟨c,9,none⟩=some (.int .i64 0):=d2 9 _ rfl
 have y10:w9.cell? ⟨c,10,none⟩=some (.int .i64 1):=d2 10 _ rfl
 have y11:w9.cell? ⟨c,11,none⟩=some (.int .i64 0):=d2 11 _ rfl
 have y12:w9.cell? ⟨c,12,none⟩=some (.int .i64 0):=d2 12 _ rfl
 have cT:=bT.cell
 have lT:=bT.lt
 clear d1 d2 hpz
 go_upto_region 14 with fail
 obtain ⟨w10,hw10⟩:∃ V,V=((w9.alloc (.cells #[.slice (some ⟨a,0,none⟩) 2 2,.slice (some ⟨b,0,none⟩) 2 2,.slice none 0 0] 26)).alloc (.cells #[.int .i64 3600,.int .i64 0,.int .i64 0,.string ⟨#[]⟩,.string ⟨#[37,122]⟩,.bool true,.int .i64 1950,.int .i64 1,.int .i64 0,.int .i64 0,.int .i64 1,.int .i64 0,.int .i64 0] 53)).alloc (.cells #[.int .i64 3600,.int .i64 0,.int .i64 0,.string ⟨#[]⟩,.string ⟨#[37,122]⟩,.bool false,.int .i64 0,.int .i64 0,.int .i64 0,.int .i64 0,.int .i64 0,.int .i64 0,.int .i64 0] 53):=⟨_,rfl⟩
 have bU:Box w10 w9.heap.size #[.slice (some ⟨a,0,none⟩) 2 2,.slice (some ⟨b,0,none⟩) 2 2,.slice none 0 0] 26:=by rw [hw10];exact ((Box.new w9 _ _).old).old
 have bE1:Box w10 (w9.heap.size+1) #[.int .i64 3600,.int .i64 0,.int .i64 0,.string ⟨#[]⟩,.string ⟨#[37,122]⟩,.bool true,.int .i64 1950,.int .i64 1,.int .i64 0,.int .i64 0,.int .i64 1,.int .i64 0,.int .i64 0] 53:=by
  rw [hw10]
  have:=Box.new (w9.alloc (.cells #[.slice (some ⟨a,0,none⟩) 2 2,.slice (some ⟨b,0,none⟩) 2 2,.slice none 0 0] 26)) #[.int .i64 3600,.int .i64 0,.int .i64 0,.string ⟨#[]⟩,.string ⟨#[37,122]⟩,.bool true,.int .i64 1950,.int .i64 1,.int .i64 0,.int .i64 0,.int .i64 1,.int .i64 0,.int .i64 0] 53
  simp only [World.size_alloc] at this
  exact this.old
 have bE2:Box w10 (w9.heap.size+1+1) #[.int .i64 3600,.int .i64 0,.int .i64 0,.string ⟨#[]⟩,.string ⟨#[37,122]⟩,.bool false,.int .i64 0,.int .i64 0,.int .i64 0,.int .i64 0,.int .i64 0,.int .i64 0,.int .i64 0] 53:=by
  rw [hw10]
  have:=Box.new ((w9.alloc (.cells #[.slice (some ⟨a,0,none⟩) 2 2,.slice (some ⟨b,0,none⟩) 2 2,.slice none 0 0] 26)).alloc (.cells #[.int .i64 3600,.int .i64 0,.int .i64 0,.string ⟨#[]⟩,.string ⟨#[37,122]⟩,.bool true,.int .i64 1950,.int .i64 1,.int .i64 0,.int .i64 0,.int .i64 1,.int .i64 0,.int .i64 0] 53)) #[.int .i64 3600,.int .i64 0,.int .i64 0,.string ⟨#[]⟩,.string ⟨#[37,122]⟩,.bool false,.int .i64 0,.int .i64 0,.int .i64 0,.int .i64 0,.int .i64 0,.int .i64 0,.int .i64 0] 53
  simp only [World.size_alloc] at this
  exact this
 have hB10:Below w9.heap.size w9 w10:=by rw [hw10];exact bcq
 rw [← hw10]
 clear hw10
 have bT10:=bT.later hB10
 have HX10:=Lib.hid (HX9.out.later hB10)
 have HB910:=Lib.hid hB10
 clear z0 z1 cT y0 y1 y2 y3 y4 y5 y6 y7 y8 y9 y10 y11 y12 bT hg1 hg2
 have cU:=bU.cell;have fU:=bU.free;have cE1:=bE1.cell;have cE2:=bE2.cell
 have l1:=bU.lt;have l2:=bE2.lt;have l3:=bT10.lt
 have l4:w9.heap.size<w10.heap.size+1:=by omega
 have l5:w9.heap.size<w10.heap.size+1+1:=by omega
 have l6:w9.heap.size≠w10.heap.size:=by omega
 have l7:w9.heap.size≠w10.heap.size+1:=by omega
 have HE1:=Lib.hid bE1;have HE2:=Lib.hid bE2
 clear hB10
 go_upto_region 15 with fail
 obtain ⟨w11,hw11⟩:∃ V,V=((w10.setCell ⟨w9.heap.size,1,none⟩ (.slice (some ⟨w10.heap.size+1,0,none⟩) 1 1)).alloc (.cells #[.int .i64 3600,.int .i64 0,.int .i64 0,.string ⟨#[]⟩,.string ⟨#[37,122]⟩,.bool true,.int .i64 1950,.int .i64 1,.int .i64 0,.int .i64 0,.int .i64 1,.int .i64 0,.int .i64 0,.int .i64 3600,.int .i64 0,.int .i64 0,.string ⟨#[]⟩,.string ⟨#[37,122]⟩,.bool false,.int .i64 0,.int .i64 0,.int .i64 0,.int .i64 0,.int .i64 0,.int .i64 0,.int .i64 0] 53)).alloc (.cells #[.string ⟨#[65]⟩,.slice (some ⟨w10.heap.size,0,none⟩) 2 2] 66):=⟨_,rfl⟩
 have n1:w1.heap.size≠w9.heap.size:=by omega
 have bT11:Box w11 w1.heap.size #[.slice (some ⟨a,0,none⟩) 2 2,.slice (some ⟨b,0,none⟩) 2 2,.slice none 0 0] 26:=by rw [hw11];repeat (first|(with_reducible assumption)|(with_reducible refine boxN (by first|rfl|(simp;done)))|(with_reducible refine Box.old ?_)|(with_reducible refine Box.drew ?_)|(with_reducible refine Box.other ?_ (by omega)))
 have bU11:Box w11 w9.heap.size #[.slice (some ⟨a,0,none⟩) 2 2,.slice (some ⟨w10.heap.size+1,0,none⟩) 1 1,.slice none 0 0] 26:=by rw [hw11];exact (bU.set (j:=1) (v:= .slice (some ⟨w10.heap.size+1,0,none⟩) 1 1)).old.old
 have bZ11:Box w11 (w10.heap.size+1) #[.string ⟨#[65]⟩,.slice (some ⟨w10.heap.size,0,none⟩) 2 2] 66:=by rw [hw11];repeat (first|(with_reducible assumption)|(with_reducible refine boxN (by first|rfl|(simp;done)))|(with_reducible refine Box.old ?_)|(with_reducible refine Box.drew ?_)|(with_reducible refine Box.other ?_ (by omega)))
 have bR11:Box w11 w10.heap.size #[.int .i64 3600,.int .i64 0,.int .i64 0,.string ⟨#[]⟩,.string ⟨#[37,122]⟩,.bool true,.int .i64 1950,.int .i64 1,.int .i64 0,.int .i64 0,.int .i64 1,.int .i64 0,.int .i64 0,.int .i64 3600,.int .i64 0,.int .i64 0,.string ⟨#[]⟩,.string ⟨#[37,122]⟩,.bool false,.int .i64 0,.int .i64 0,.int .i64 0,.int .i64 0,.int .i64 0,.int .i64 0,.int .i64 0] 53:=by rw [hw11];repeat (first|(with_reducible assumption)|(with_reducible refine boxN (by first|rfl|(simp;done)))|(with_reducible refine Box.old ?_)|(with_reducible refine Box.drew ?_)|(with_reducible refine Box.other ?_ (by omega)))
 have hB11:Below w9.heap.size w9 w11:=by
  rw [hw11]
  have h:=HB910.out
  exact bcq
 rw [← hw11]
 clear hw11
 have HX11:=Lib.hid (HX9.out.later hB11)
 have HU11:=Lib.hid (one_h HX11.out.r bZ11 bR11)
 have HB11:=Lib.hid (bt HB9.out hB11)
 have cT11:=bT11.cell;have cU11:=bU11.cell
 have lT11:=bT11.lt;have lU11:=bU11.lt
 clear hB11 bU bE1 bE2 cU fU cE1 cE2 l1 l2 l3 l4 l5 l6 l7 bT10 bT11 bU11 bZ11 bR11
 go_wp2_with (first
  |(go_at_call 17;(with_reducible refine (U9.out a (w10.heap.size+1) w10.heap.size _ ?_ ?_ ?_).mono ?_);(· exact HU11.out.later bcq);(· exact HTB.out.later (bt HB11.out bcq));(· exact HST.out.later (bt HB11.out bcq));rintro e w12 ⟨rfl,hb12⟩;obtain ⟨hc12_0,hf12_0,hz12_0⟩:=bcs hb12 (w1.heap.size))
  |(go_at_call 20;(with_reducible refine (Q1.out a b c d _ ?_ ?_ ?_).mono ?_);(· exact HX11.out.later bcq);(· exact HTB.out.later (bt HB11.out bcq));(· exact HST.out.later (bt HB11.out bcq));rintro e w13 ⟨rfl,hb13⟩;obtain ⟨hc13_0,hf13_0,hz13_0⟩:=bcs hb13 (w1.heap.size))
  |(go_at_call 20;(with_reducible refine (Q2.out a b c d _ ?_ ?_ ?_).mono ?_);(· exact HX11.out.later bcq);(· exact HTB.out.later (bt HB11.out bcq));(· exact HST.out.later (bt HB11.out bcq));rintro e w14 ⟨rfl,hb14⟩;obtain ⟨hc14_0,hf14_0,hz14_0⟩:=bcs hb14 (w1.heap.size))
  |(go_at_call 20;(with_reducible refine (Q3.out a b c d _ ?_ ?_ ?_).mono ?_);(· exact HX11.out.later bcq);(· exact HTB.out.later (bt HB11.out bcq));(· exact HST.out.later (bt HB11.out bcq));rintro e w15 ⟨rfl,hb15⟩;obtain ⟨hc15_0,hf15_0,hz15_0⟩:=bcs hb15 (w1.heap.size))
  |(go_at_call 20;(with_reducible refine (Q4.out a b c d _ ?_ ?_ ?_).mono ?_);(· exact HX11.out.later bcq);(· exact HTB.out.later (bt HB11.out bcq));(· exact HST.out.later (bt HB11.out bcq));rintro e w16 ⟨rfl,hb16⟩;obtain ⟨hc16_0,hf16_0,hz16_0⟩:=bcs hb16 (w1.heap.size))
  |(go_at_call 20;(with_reducible refine (Q5.out a b c d _ ?_ ?_ ?_).mono ?_);(· exact HX11.out.later bcq);(· exact HTB.out.later (bt HB11.out bcq));(· exact HST.out.later (bt HB11.out bcq));rintro e w17 ⟨rfl,hb17⟩;obtain ⟨hc17_0,hf17_0,hz17_0⟩:=bcs hb17 (w1.heap.size))
  |(go_at_call 20;(with_reducible refine (Q6.out a b c d _ ?_ ?_ ?_).mono ?_);(· exact HX11.out.later bcq);(· exact HTB.out.later (bt HB11.out bcq));(· exact HST.out.later (bt HB11.out bcq));rintro e w18 ⟨rfl,hb18⟩;obtain ⟨hc18_0,hf18_0,hz18_0⟩:=bcs hb18 (w1.heap.size)))
 go_ret
 exact ⟨rfl,bt HB11.out bcq⟩
end L35
end Go.Proofs.YtgmfojgnjdpofaaGreatDoor
