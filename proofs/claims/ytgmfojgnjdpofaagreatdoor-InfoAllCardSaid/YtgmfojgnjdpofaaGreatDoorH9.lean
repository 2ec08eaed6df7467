import Derived.Test.YtgmfojgnjdpofaaGreatDoorH8
import Derived.Test.YtgmfojgnjdpofaaGreatDoorH2
namespace Go.Proofs.YtgmfojgnjdpofaaGreatDoor
open Go.Proofs.Tryz
open Go.RowKit NB
namespace RDay
set_option maxHeartbeats 1600000 in
theorem Right (k wk d:Int) (w:World):Calls prog 247 #[.agg #[.int .i64 k,.int .i64 wk,.int .i64 d]] w fun e w'=>e=.returned (.bool (Day.onRight k wk d))∧Below w.heap.size w w':=by
 go_enter func247,ntmps247;go_wp2
 all_goals
  go_ret;refine ⟨ret_bool ?_,bcq⟩;rw [Bool.eq_iff_iff,Day.onRight_iff];simp only [beq_iff_eq,beq_eq_false_iff_ne,ne_eq,decide_eq_true_eq,Bool.false_eq_true,false_iff] at *;omega
theorem len_2001 (m:Int):Cal.len 2001 m=Cal.len 1 m:=by
 unfold Cal.len;rw [show Cal.lp 2001=Cal.lp 1 by decide]
theorem len_2000 (m:Int):Cal.len 2000 m=Cal.len 4 m:=by
 unfold Cal.len;rw [show Cal.lp 2000=Cal.lp 4 by decide]
set_option maxHeartbeats 1600000 in
theorem Fits (k wk d m:Int) (w:World):Calls prog 236 #[.agg #[.int .i64 k,.int .i64 wk,.int .i64 d],.int .i64 m] w fun e w'=>e=.returned (.bool (Day.fits k wk d m))∧Below w.heap.size w w':=by
 have cr:=Right k wk d;have cl:=RCiv.Len 2001 m;rw [len_2001] at cl;unfold Day.fits;have Cl:=kj cl;clear cl;cases h1:Day.onRight k wk d
 ·rw [h1] at cr;have Cr:=kj cr;clear cr h1;simp only [Bool.false_and];go_enter func236,ntmps236;go_wp2
  (refine region_later (by kernel_rfl) (by kernel_rfl) ?_;(repeat (go_big_quiet_step (first|(go_at_call 247;rename_i xL;apply calls_later xL (Nat.le_refl _);exact (Cr.out _)))));refine wpQuiet_nil ?_;rintro _ ⟨⟨u1,hu1⟩,rfl⟩)
  go_wp2;go_ret;exact ⟨rfl,bcq⟩
 ·rw [h1] at cr;have Cr:=kj cr;clear cr h1
  by_cases hm1:1≤m
  ·by_cases hm2:m≤12
   ·have e:(true&&(decide (1≤m)&&decide (m≤12))&&decide (d≤Cal.len 1 m))=decide (d≤Cal.len 1 m):=by simp [hm1,hm2]
    rw [e];clear e;generalize Cal.len 1 m=ln at *;go_enter func236,ntmps236;go_wp2
    (refine region_later (by kernel_rfl) (by kernel_rfl) ?_;(repeat (go_big_quiet_step (first|(go_at_call 247;rename_i xL;apply calls_later xL (Nat.le_refl _);exact (Cr.out _))|(go_at_call 188;rename_i xL;apply calls_later xL (Nat.le_refl _);exact (Cl.out _)))));refine wpQuiet_nil ?_;rintro _ ⟨⟨u1,hu1⟩,rfl⟩)
    go_wp2;go_ret;exact ⟨rfl,bcq⟩
   ·have d2:decide (m≤12)=false:=by simpa using hm2
    rw [d2];simp only [Bool.and_false,Bool.false_and];go_enter func236,ntmps236;go_wp2
    (refine region_later (by kernel_rfl) (by kernel_rfl) ?_;(repeat (go_big_quiet_step (first|(go_at_call 247;rename_i xL;apply calls_later xL (Nat.le_refl _);exact (Cr.out _)))));refine wpQuiet_nil ?_;rintro _ ⟨⟨u1,hu1⟩,rfl⟩)
    go_wp2;go_ret;exact ⟨rfl,bcq⟩
  ·have d2:decide (1≤m)=false:=by simpa using hm1
   rw [d2];simp only [Bool.and_false,Bool.false_and];go_enter func236,ntmps236;go_wp2
   (refine region_later (by kernel_rfl) (by kernel_rfl) ?_;(repeat (go_big_quiet_step (first|(go_at_call 247;rename_i xL;apply calls_later xL (Nat.le_refl _);exact (Cr.out _)))));refine wpQuiet_nil ?_;rintro _ ⟨⟨u1,hu1⟩,rfl⟩)
   go_wp2;go_ret;exact ⟨rfl,bcq⟩
set_option maxHeartbeats 1600000 in
theorem Window (k wk d m:Int) (w:World):Calls prog 235 #[.agg #[.int .i64 k,.int .i64 wk,.int .i64 d],.int .i64 m] w fun e w'=>
 e=.returned (if Day.fits k wk d m then .tuple #[.int .i64 (Day.winLow k d m),.int .i64 (Day.winHigh k d m),.int .i64 0] else .tuple #[.int .i64 0,.int .i64 0,.int .i64 4])∧Below w.heap.size w w':=by
 have cf:=Fits k wk d m;have cl1:=RCiv.Len 2001 m;have cl0:=RCiv.Len 2000 m;rw [len_2001] at cl1;rw [len_2000] at cl0;have lb1:=Cal.len_le 1 m;have lb0:=Cal.len_le 4 m;have Cl1:=kj cl1;have Cl0:=kj cl0;clear cl1 cl0;cases h:Day.fits k wk d m
 ·rw [h] at cf;have Cf:=kj cf;clear cf h;rw [if_neg (by decide)];go_enter func235,ntmps235
  go_wp2_with (go_at_call 236;(with_reducible refine (Cf.out _).mono ?_);rintro e w1 ⟨rfl,hb1⟩;obtain ⟨hc1_0,hf1_0,hz1_0⟩:=bcs hb1 (w.heap.size))
  go_ret3
  exact ⟨rfl,bcq⟩
 ·rw [h] at cf;have hk:=Day.kinds h;obtain ⟨d0,d1,_,_⟩:=Day.days31 h;have Cf:=kj cf;clear cf h;rw [if_pos rfl];unfold Day.winLow Day.winHigh;generalize Cal.len 1 m=l1 at *;generalize Cal.len 4 m=l4 at *;rcases hk with rfl|rfl|rfl|rfl
  all_goals
   simp only [Int.reduceEq,if_true,if_false];go_enter func235,ntmps235
   go_wp2_with (first|(go_at_call 236;(with_reducible refine (Cf.out _).mono ?_);rintro e w1 ⟨rfl,hb1⟩;obtain ⟨hc1_0,hf1_0,hz1_0⟩:=bcs hb1 (w.heap.size))|(go_at_call 188;(with_reducible refine (Cl1.out _).mono ?_);rintro e w2 ⟨rfl,hb2⟩;obtain ⟨_,_,_⟩:=bcs hb2 (w.heap.size))|(go_at_call 188;(with_reducible refine (Cl0.out _).mono ?_);rintro e w3 ⟨rfl,hb3⟩;obtain ⟨_,_,_⟩:=bcs hb3 (w.heap.size)))
   try (go_quiet (fail);go_wp2)
   go_ret3
   exact ⟨rfl,bcq⟩
theorem down_at {n wk j:Int} (h0:0≤wk) (h1:wk≤6) (hj0:0≤j) (hj:j≤Day.backI n wk):(n-j+4)%7=wk↔j=Day.backI n wk:=by
 unfold Day.backI at *
 constructor
 ·intro h;omega
 ·intro h;omega
theorem up_at {n wk j:Int} (h0:0≤wk) (h1:wk≤6) (hj0:0≤j) (hj:j≤6-Day.backI (n+6) wk):(n+j+4)%7=wk↔j=6-Day.backI (n+6) wk:=by
 unfold Day.backI at *
 constructor
 ·intro h;omega
 ·intro h;omega
set_option maxHeartbeats 6400000 in
theorem Days (k wk d y m:Int) (w:World):Calls prog 243 #[.agg #[.int .i64 k,.int .i64 wk,.int .i64 d],.int .i64 y,.int .i64 m] w fun e w'=>
 e=.returned (if Day.fits k wk d m then (if -39999≤y∧y≤39999 then .tuple #[.int .i64 (Day.dayI k wk d y m),.int .i64 0] else .tuple #[.int .i64 0,.int .i64 1]) else .tuple #[.int .i64 0,.int .i64 4])∧Below w.heap.size w w':=by
 have cf:=Fits k wk d m;cases h:Day.fits k wk d m
 ·rw [h] at cf;have Cf:=kj cf;clear cf h;rw [if_neg (by decide)];go_enter func243,ntmps243
  go_wp2_with (go_at_call 236;(with_reducible refine (Cf.out _).mono ?_);rintro e w1 ⟨rfl,hb1⟩;obtain ⟨hc1_0,hf1_0,hz1_0⟩:=bcs hb1 (w.heap.size))
  go_ret2;exact ⟨rfl,bcq⟩
 rw [h] at cf;rw [if_pos rfl]
 by_cases hy: -39999≤y∧y≤39999
 case neg=>
  rw [if_neg hy];have Cf:=kj cf;clear cf h;rcases (by omega:y < -39999∨39999<y) with hy'|hy'
  all_goals
   clear hy;go_enter func243,ntmps243
   go_wp2_with (go_at_call 236;(with_reducible refine (Cf.out _).mono ?_);rintro e w1 ⟨rfl,hb1⟩;obtain ⟨hc1_0,hf1_0,hz1_0⟩:=bcs hb1 (w.heap.size))
   go_ret2;exact ⟨rfl,bcq⟩
 rw [if_pos hy];obtain ⟨y0,y1⟩:=hy;have hk:=Day.kinds h;obtain ⟨d0,d1,w0,w1⟩:=Day.days31 h;obtain ⟨m0,m1,_,hks⟩:=Day.fits_spec h;have cd:=RCiv.Days y m 1;rw [Day.right_first (by omega) (by omega) m0 m1,if_pos rfl] at cd;have fb:=Day.first_bd (y:=y) (m:=m) (by omega) (by omega) m0 m1;have lb:=Cal.len_le y m;have cl:=RCiv.Len y m;have cw:=fun n h0 h1 W=>RCiv.Weekday n h0 h1 W;unfold Day.dayI;generalize Cal.days y m 1=F at *;generalize Cal.len y m=ln at *;have Cf:=kj cf;have Cd:=kj cd;have Cl:=kj cl;have Cw:=kj cw;clear cf cd cl cw h;rcases hk with rfl|rfl|rfl|rfl
 case inr.inl=>
  simp only [Int.reduceEq,if_false];clear hks;go_enter func243,ntmps243
  go_wp2_with (first|(go_at_call 236;(with_reducible refine (Cf.out _).mono ?_);rintro e w1 ⟨rfl,hb1⟩;obtain ⟨hc1_0,hf1_0,hz1_0⟩:=bcs hb1 (w.heap.size))|(go_at_call 286;(with_reducible refine (Cd.out _).mono ?_);rintro e w2 ⟨rfl,hb2⟩;obtain ⟨hc2_0,hf2_0,hz2_0⟩:=bcs hb2 (w.heap.size)))
  go_ret2;exact ⟨rfl,bcq⟩
 case inl=>
  simp only [Int.reduceEq,if_true,if_false];have hd0:0≤d:=by omega
  clear hks;have hb:=Day.backI_bd (F+ln-1) wk;have hat:=fun j h2 h3=>down_at (n:=F+ln-1) (wk:=wk) (j:=j) w0 w1 h2 h3;obtain ⟨B,hB⟩:∃ B,B=Day.backI (F+ln-1) wk:=⟨_,rfl⟩;rw [← hB] at hat ⊢;have hb2:0≤B∧B≤6:=by omega
  have HB0:=kj hB;have Hat:=kj hat;clear hat hb hB;go_enter func243,ntmps243
  go_wp2_with (first|(go_at_call 236;(with_reducible refine (Cf.out _).mono ?_);rintro e w1 ⟨rfl,hb1⟩;obtain ⟨hc1_0,hf1_0,hz1_0⟩:=bcs hb1 (w.heap.size))|(go_at_call 286;(with_reducible refine (Cd.out _).mono ?_);rintro e w2 ⟨rfl,hb2⟩;obtain ⟨hc2_0,hf2_0,hz2_0⟩:=bcs hb2 (w.heap.size))|(go_at_call 188;(with_reducible refine (Cl.out _).mono ?_);rintro e w3 ⟨rfl,hb3⟩;obtain ⟨_,_,_⟩:=bcs hb3 (w.heap.size)))
  have hBox:Box w3 w.heap.size #[.int .i64 1,.int .i64 wk,.int .i64 d] 47:=bxq;have hBel:Below w.heap.size w w3:=bcq
  go_loopw [10] (fun s wr=>∃ j:Int,s=.int .i64 (F+ln-1-j)∧0≤j∧j≤B∧Below w.heap.size w wr∧Box wr w.heap.size #[.int .i64 1,.int .i64 wk,.int .i64 d] 47) (fun s _=>match s with|.int _ n=>(B-(F+ln-1-n)).toNat|_=>0)
  case atStart=>exact ⟨0,by go_num,by omega,by omega,hBel,hBox⟩
  case round=>
   obtain ⟨j,rfl,j0,j1,hbel,hbx⟩:=hrel;clear hBel hBox;have u0:=hbx.lt;have f0:=hbx.cell;have hj:=Hat.out j j0 j1;have cw:=Cw.out (F+ln-1-j) (by omega) (by omega);generalize (F+ln-1-j+4)%7=wd at *;have Cw1:=kj cw;clear cw
   by_cases hjB:j=B
   ·have e1:(wd==wk)=true:=by rw [beq_iff_eq];exact hj.2 hjB
    have e2:(wd != wk)=false:=by rw [bne,e1];rfl
    subst hjB;clear hj;go_wp2
    go_quiet ((go_at_call 287;exact quiet_left (Cw1.out _)))
    go_wp2;go_ret2;exact ⟨rfl,bcq⟩
   ·have e1:(wd==wk)=false:=by rw [beq_eq_false_iff_ne];exact fun h=>hjB (hj.1 h)
    have e2:(wd != wk)=true:=by rw [bne,e1];rfl
    have hlt:j<B:=by omega
    clear hj hjB;go_wp2
    go_quiet ((go_at_call 287;exact quiet_left (Cw1.out _)))
    go_wp2;go_roundw
    case rel=>exact ⟨j+1,by go_num,by omega,by omega,bcq,bxq⟩
    case measure=>simp;omega
 case inr.inr.inl=>
  simp only [Int.reduceEq,if_true,if_false];have hd0:1≤d:=by omega
  clear hks;have hb:=Day.backI_bd (F+d-1+6) wk;have hat:=fun j h2 h3=>up_at (n:=F+d-1) (wk:=wk) (j:=j) w0 w1 h2 h3;obtain ⟨B,hB⟩:∃ B,B=6-Day.backI (F+d-1+6) wk:=⟨_,rfl⟩;rw [← hB] at hat ⊢;have hb2:0≤B∧B≤6:=by omega
  have HB0:=kj hB;have Hat:=kj hat;clear hat hb hB;go_enter func243,ntmps243
  go_wp2_with (first|(go_at_call 236;(with_reducible refine (Cf.out _).mono ?_);rintro e w1 ⟨rfl,hb1⟩;obtain ⟨hc1_0,hf1_0,hz1_0⟩:=bcs hb1 (w.heap.size))|(go_at_call 286;(with_reducible refine (Cd.out _).mono ?_);rintro e w2 ⟨rfl,hb2⟩;obtain ⟨hc2_0,hf2_0,hz2_0⟩:=bcs hb2 (w.heap.size)))
  have hBox:Box w2 w.heap.size #[.int .i64 2,.int .i64 wk,.int .i64 d] 47:=bxq;have hBel:Below w.heap.size w w2:=bcq
  go_loopw [10] (fun s wr=>∃ j:Int,s=.int .i64 (F+d-1+j)∧0≤j∧j≤B∧Below w.heap.size w wr∧Box wr w.heap.size #[.int .i64 2,.int .i64 wk,.int .i64 d] 47) (fun s _=>match s with|.int _ n=>(B-(n-(F+d-1))).toNat|_=>0)
  case atStart=>exact ⟨0,by go_num,by omega,by omega,hBel,hBox⟩
  case round=>
   obtain ⟨j,rfl,j0,j1,hbel,hbx⟩:=hrel;clear hBel hBox;have u0:=hbx.lt;have f0:=hbx.cell;have hj:=Hat.out j j0 j1;have cw:=Cw.out (F+d-1+j) (by omega) (by omega);generalize (F+d-1+j+4)%7=wd at *;have Cw1:=kj cw;clear cw
   by_cases hjB:j=B
   ·have e1:(wd==wk)=true:=by rw [beq_iff_eq];exact hj.2 hjB
    have e2:(wd != wk)=false:=by rw [bne,e1];rfl
    subst hjB;clear hj;go_wp2
    go_quiet ((go_at_call 287;exact quiet_left (Cw1.out _)))
    go_wp2;go_ret2;exact ⟨rfl,bcq⟩
   ·have e1:(wd==wk)=false:=by rw [beq_eq_false_iff_ne];exact fun h=>hjB (hj.1 h)
    have e2:(wd != wk)=true:=by rw [bne,e1];rfl
    have hlt:j<B:=by omega
    clear hj hjB;go_wp2
    go_quiet ((go_at_call 287;exact quiet_left (Cw1.out _)))
    go_wp2;go_roundw
    case rel=>exact ⟨j+1,by go_num,by omega,by omega,bcq,bxq⟩
    case measure=>simp;omega
 case inr.inr.inr=>
  simp only [Int.reduceEq,if_true,if_false];have hd0:1≤d:=by omega
  clear hks;have hb:=Day.backI_bd (F+d-1) wk;have hat:=fun j h2 h3=>down_at (n:=F+d-1) (wk:=wk) (j:=j) w0 w1 h2 h3;obtain ⟨B,hB⟩:∃ B,B=Day.backI (F+d-1) wk:=⟨_,rfl⟩;rw [← hB] at hat ⊢;have hb2:0≤B∧B≤6:=by omega
  have HB0:=kj hB;have Hat:=kj hat;clear hat hb hB;go_enter func243,ntmps243
  go_wp2_with (first|(go_at_call 236;(with_reducible refine (Cf.out _).mono ?_);rintro e w1 ⟨rfl,hb1⟩;obtain ⟨hc1_0,hf1_0,hz1_0⟩:=bcs hb1 (w.heap.size))|(go_at_call 286;(with_reducible refine (Cd.out _).mono ?_);rintro e w2 ⟨rfl,hb2⟩;obtain ⟨hc2_0,hf2_0,hz2_0⟩:=bcs hb2 (w.heap.size)))
  have hBox:Box w2 w.heap.size #[.int .i64 3,.int .i64 wk,.int .i64 d] 47:=bxq;have hBel:Below w.heap.size w w2:=bcq
  go_loopw [10] (fun s wr=>∃ j:Int,s=.int .i64 (F+d-1-j)∧0≤j∧j≤B∧Below w.heap.size w wr∧Box wr w.heap.size #[.int .i64 3,.int .i64 wk,.int .i64 d] 47) (fun s _=>match s with|.int _ n=>(B-(F+d-1-n)).toNat|_=>0)
  case atStart=>exact ⟨0,by go_num,by omega,by omega,hBel,hBox⟩
  case round=>
   obtain ⟨j,rfl,j0,j1,hbel,hbx⟩:=hrel;clear hBel hBox;have u0:=hbx.lt;have f0:=hbx.cell;have hj:=Hat.out j j0 j1;have cw:=Cw.out (F+d-1-j) (by omega) (by omega);generalize (F+d-1-j+4)%7=wd at *;have Cw1:=kj cw;clear cw
   by_cases hjB:j=B
   ·have e1:(wd==wk)=true:=by rw [beq_iff_eq];exact hj.2 hjB
    have e2:(wd != wk)=false:=by rw [bne,e1];rfl
    subst hjB;clear hj;go_wp2
    go_quiet ((go_at_call 287;exact quiet_left (Cw1.out _)))
    go_wp2;go_ret2;exact ⟨rfl,bcq⟩
   ·have e1:(wd==wk)=false:=by rw [beq_eq_false_iff_ne];exact fun h=>hjB (hj.1 h)
    have e2:(wd != wk)=true:=by rw [bne,e1];rfl
    have hlt:j<B:=by omega
    clear hj hjB;go_wp2
    go_quiet ((go_at_call 287;exact quiet_left (Cw1.out _)))
    go_wp2;go_roundw
    case rel=>exact ⟨j+1,by go_num,by omega,by omega,bcq,bxq⟩
    case measure=>simp;omega
end RDay
end Go.Proofs.YtgmfojgnjdpofaaGreatDoor
