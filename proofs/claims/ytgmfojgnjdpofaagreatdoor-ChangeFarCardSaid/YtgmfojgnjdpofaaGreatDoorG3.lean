import Derived.Test.YtgmfojgnjdpofaaGreatDoorG2
import Derived.Test.YtgmfojgnjdpofaaGreatDoorG1
import Derived.Shelf.Strings.Cut
import Derived.Test.YtgmfojgnjdpofaaGreatDoorProg
namespace Go.Proofs.YtgmfojgnjdpofaaGreatDoor
section
open Go.RowKit NB
namespace Civ
set_option maxHeartbeats 800000 in
theorem number (y m d:Int) (h1: -50000≤y) (h2:y≤50000) (h3:1≤m) (h4:m≤12) (h5:0≤d) (h6:d≤100) (w:World):
 Calls Tryz.prog 76 #[.agg #[.int .i64 y,.int .i64 m,.int .i64 d]] w fun e w'=>e= .returned (.int .i64 (Cal.number y m d))∧Below w.heap.size w w':=by
 by_cases hm:m<3
 ·have q1: -200≤(y-1)/400:=by omega
  have q2:(y-1)/400≤200:=by omega
  have q3:0≤(y-1)%400:=by omega
  have q4:(y-1)%400≤399:=by omega
  have hf:Cal.number y m d=(y-1)/400*146097+(y-1)%400*365+(y-1)%400/4-(y-1)%400/100+((153*(m-3+12)+2)/5+d-1)-719468:=by
   unfold Cal.number Cal.y0 Cal.m0;rw [if_pos hm,if_pos hm,show m+9=m-3+12 by omega]
  rw [hf];clear hf
  go_enter Tryz.func76,Tryz.ntmps76
  go_wp2
  go_quiet (fail)
  go_wp2_with (go_at_call 132;refine (Num.Div _ _ (by omega) (by omega) (by omega) (by omega) _).mono ?_;rintro e w1 ⟨rfl,hb⟩;obtain ⟨hc,hfz⟩:=bcell hb)
  go_quiet ((go_at_call 133;exact quiet_left (march _ (by omega) (by omega) _)))
  go_wp2
  go_ret
  exact ⟨rfl,below_drewN ((below_drewN ((Below.refl _ _).alloc (Nat.le_refl _) _) _).trans (hb.mono (by simp))) _⟩
 ·have q1: -200≤y/400:=by omega
  have q2:y/400≤200:=by omega
  have q3:0≤y%400:=by omega
  have q4:y%400≤399:=by omega
  have hf:Cal.number y m d=y/400*146097+y%400*365+y%400/4-y%400/100+((153*(m-3)+2)/5+d-1)-719468:=by
   unfold Cal.number Cal.y0 Cal.m0;rw [if_neg hm,if_neg hm]
  rw [hf];clear hf
  go_enter Tryz.func76,Tryz.ntmps76
  go_wp2
  go_quiet (fail)
  go_wp2_with (go_at_call 132;refine (Num.Div _ _ (by omega) (by omega) (by omega) (by omega) _).mono ?_;rintro e w1 ⟨rfl,hb⟩;obtain ⟨hc,hfz⟩:=bcell hb)
  go_quiet ((go_at_call 133;exact quiet_left (march _ (by omega) (by omega) _)))
  go_wp2
  go_ret
  exact ⟨rfl,below_drewN ((below_drewN ((Below.refl _ _).alloc (Nat.le_refl _) _) _).trans (hb.mono (by simp))) _⟩
theorem right_spec {y m d:Int} (h:right y m d=true): -40000≤y∧y≤40000∧1≤m∧m≤12∧1≤d∧d≤Cal.len y m:=by
 unfold right at h
 simp only [Bool.and_eq_true,decide_eq_true_eq] at h
 obtain ⟨⟨⟨a,b⟩,c⟩,d⟩:=h
 refine ⟨a,b,?_,?_,c,d⟩
 ·by_cases hm:m<1
  ·rw [Cal.len_out _ _ (.inl hm)] at d;omega
  ·omega
 ·by_cases hm:12<m
  ·rw [Cal.len_out _ _ (.inr hm)] at d;omega
  ·omega
set_option maxHeartbeats 800000 in
theorem Days (y m d:Int) (w:World):
 Calls Tryz.prog 30 #[.agg #[.int .i64 y,.int .i64 m,.int .i64 d]] w fun e w'=>e= .returned (if right y m d then .tuple #[.int .i64 (Cal.days y m d),.int .i64 0] else .tuple #[.int .i64 0,.int .i64 1])∧Below w.heap.size w w':=by
 cases hr:right y m d
 ·have Hr:=Lib.hid hr;clear hr
  go_enter Tryz.func30,Tryz.ntmps30
  go_wp2_with (go_at_call 75;refine (Right _ _ _ _).mono ?_;rw [Hr.out];rintro e w1 ⟨rfl,hb⟩)
  go_ret2
  exact ⟨rfl,((Below.refl _ _).alloc (Nat.le_refl _) _).trans (hb.mono (by simp))⟩
 ·obtain ⟨a1,a2,a3,a4,a5,a6⟩:=right_spec hr
  have hl:=Cal.len_le y m
  have Hr:=Lib.hid hr;clear hr
  have hd:d≤31:=by omega
  clear a6 hl
  have e1:=Lib.hid (Cal.number_eq y m d a3 a4)
  go_enter Tryz.func30,Tryz.ntmps30
  go_wp2_with (first|(go_at_call 75;refine (Right _ _ _ _).mono ?_;rw [Hr.out];rintro e w1 ⟨rfl,hb⟩;obtain ⟨hc,hfz⟩:=bcell hb)|(go_at_call 76;refine (number _ _ _ (by omega) (by omega) (by omega) (by omega) (by omega) (by omega) _).mono ?_;rintro e w2 ⟨rfl,hb2⟩))
  go_ret2
  exact ⟨by rw [← e1.out];rfl,(((Below.refl _ _).alloc (Nat.le_refl _) _).trans (hb.mono (by simp))).trans (hb2.mono (by have:=hb.size;simp at this;omega))⟩
theorem Weekday (n:Int) (h0: -9000000000000000000≤n) (h1:n≤9000000000000000000) (w:World):
 Calls Tryz.prog 315 #[.int .i64 n] w fun e w'=>e= .returned (.int .i64 ((n+4)%7))∧Below w.heap.size w w':=by
 have q3:0≤n%7:=by omega
 have q4:n%7≤6:=by omega
 have hf:(n+4)%7=(n%7+4)%7:=by omega
 rw [hf];clear hf
 go_enter Tryz.func315,Tryz.ntmps315
 go_wp2_with (go_at_call 132;refine (Num.Div _ _ (by omega) (by omega) (by omega) (by omega) _).mono ?_;rintro e w1 ⟨rfl,hb⟩)
 go_ret
 exact ⟨rfl,hb⟩
end Civ
end
section
open Go.RowKit NB
namespace Day
def onRight (k wk d:Int):Bool:=if k=1 then decide (0≤wk∧wk≤6∧d=0) else decide (0≤k∧k≤3∧0≤wk∧wk≤(if k=0 then 0 else 6)∧1≤d∧d≤31)
theorem onRight_iff (k wk d:Int):onRight k wk d=true↔(k=1∧0≤wk∧wk≤6∧d=0)∨(k=0∧wk=0∧1≤d∧d≤31)∨((k=2∨k=3)∧0≤wk∧wk≤6∧1≤d∧d≤31):=by
 unfold onRight
 by_cases h1:k=1
 ·simp [h1]
 ·by_cases h0:k=0
  ·simp [h0];omega
  ·simp [h1,h0];omega
theorem within (n lo hi:Int) (w:World):Calls Tryz.prog 273 #[.int .i64 n,.int .i64 lo,.int .i64 hi] w fun e w'=>e= .returned (.bool (decide (lo≤n)&&decide (n≤hi)))∧w=w':=by
 go_enter Tryz.func273,Tryz.ntmps273
 go_wp2
 all_goals
  go_ret
  refine ⟨ret_bool ?_,rfl⟩
  simp [*]
  try omega
set_option maxHeartbeats 800000 in
theorem Right (k wk d:Int) (w:World):Calls Tryz.prog 272 #[.agg #[.int .i64 k,.int .i64 wk,.int .i64 d]] w fun e w'=>e= .returned (.bool (onRight k wk d))∧Below w.heap.size w w':=by
 go_enter Tryz.func272,Tryz.ntmps272
 go_wp2
 all_goals
  go_ret
  refine ⟨ret_bool ?_,(Below.refl _ _).alloc (Nat.le_refl _) _⟩
  rw [Bool.eq_iff_iff,onRight_iff]
  simp only [beq_iff_eq,beq_eq_false_iff_ne,ne_eq,decide_eq_true_eq,Bool.false_eq_true,false_iff] at *
  omega
def fits (k wk d m:Int):Bool:=onRight k wk d&&(decide (1≤m)&&decide (m≤12))&&decide (d≤Cal.len 1 m)
theorem fits_spec {k wk d m:Int} (h:fits k wk d m=true):1≤m∧m≤12∧d≤Cal.len 1 m∧((k=1∧0≤wk∧wk≤6∧d=0)∨(k=0∧wk=0∧1≤d∧d≤31)∨((k=2∨k=3)∧0≤wk∧wk≤6∧1≤d∧d≤31)):=by
 unfold fits at h
 simp only [Bool.and_eq_true,decide_eq_true_eq] at h
 exact ⟨h.1.2.1,h.1.2.2,h.2,(onRight_iff _ _ _).1 h.1.1⟩
set_option maxHeartbeats 800000 in
theorem Fits (k wk d m:Int) (w:World):Calls Tryz.prog 217 #[.agg #[.int .i64 k,.int .i64 wk,.int .i64 d],.int .i64 m] w fun e w'=>e= .returned (.bool (fits k wk d m))∧Below w.heap.size w w':=by
 unfold fits
 cases h1:onRight k wk d
 case false=>
  have H1:=Lib.hid h1;clear h1
  go_enter Tryz.func217,Tryz.ntmps217
  go_wp2
  refine region_later (by kernel_rfl) (by kernel_rfl) ?_
  repeat (go_big_quiet_step ((go_at_call 272;rename_i xL;apply calls_later xL (Nat.le_refl _);refine (Right _ _ _ _).mono ?_;rw [H1.out];exact fun _ _ h=>h)))
  refine wpQuiet_nil ?_
  rintro _ ⟨⟨u,hu⟩,rfl⟩
  go_wp2
  go_ret
  exact ⟨rfl,((Below.refl _ _).alloc (Nat.le_refl _) _).trans (hu.mono (by simp))⟩
 case true=>
  have H1:=Lib.hid h1;clear h1
  cases h2:(decide (1≤m)&&decide (m≤12))
  case false=>
   have H2:=Lib.hid h2;clear h2
   go_enter Tryz.func217,Tryz.ntmps217
   go_wp2
   refine region_later (by kernel_rfl) (by kernel_rfl) ?_
   repeat (go_big_quiet_step (first|(go_at_call 272;rename_i xL;apply calls_later xL (Nat.le_refl _);refine (Right _ _ _ _).mono ?_;rw [H1.out];exact fun _ _ h=>h)|(go_at_call 273;rename_i xL;apply calls_later xL (Nat.le_refl _);apply below_of_same;refine (within _ _ _ _).mono ?_;rw [H2.out];exact fun _ _ h=>h)))
   refine wpQuiet_nil ?_
   rintro _ ⟨⟨u,hu⟩,rfl⟩
   go_wp2
   go_ret
   exact ⟨rfl,((Below.refl _ _).alloc (Nat.le_refl _) _).trans (hu.mono (by simp))⟩
  case true=>
   have H2:=Lib.hid h2;clear h2
   go_enter Tryz.func217,Tryz.ntmps217
   go_wp2
   refine region_later (by kernel_rfl) (by kernel_rfl) ?_
   repeat (go_big_quiet_step (first|(go_at_call 272;rename_i xL;apply calls_later xL (Nat.le_refl _);refine (Right _ _ _ _).mono ?_;rw [H1.out];exact fun _ _ h=>h)|(go_at_call 273;rename_i xL;apply calls_later xL (Nat.le_refl _);apply below_of_same;refine (within _ _ _ _).mono ?_;rw [H2.out];exact fun _ _ h=>h)|(go_at_call 131;rename_i xL;exact calls_later xL (Nat.le_refl _) (below_of_same (Civ.Len _ _ _)))))
   refine wpQuiet_nil ?_
   rintro _ ⟨⟨u,hu⟩,rfl⟩
   go_wp2
   go_ret
   exact ⟨rfl,((Below.refl _ _).alloc (Nat.le_refl _) _).trans (hu.mono (by simp))⟩
def backI (n wk:Int):Int:=((n+4)%7-wk+7)%7
theorem back (n wk:Int) (h0: -9000000000000000000≤n) (h1:n≤9000000000000000000) (h2:0≤wk) (h3:wk≤6) (w:World):
 Calls Tryz.prog 297 #[.int .i64 n,.int .i64 wk] w fun e w'=>e= .returned (.int .i64 (backI n wk))∧Below w.heap.size w w':=by
 unfold backI
 have q3:0≤(n+4)%7:=by omega
 have q4:(n+4)%7≤6:=by omega
 go_enter Tryz.func297,Tryz.ntmps297
 go_wp2_with (go_at_call 315;refine (Civ.Weekday _ (by omega) (by omega) _).mono ?_;rintro e w1 ⟨rfl,hb⟩)
 go_ret
 exact ⟨rfl,hb⟩
end Day
end
section
open Go.RowKit NB
namespace Day
def winLow (k d m:Int):Int:=if k=1 then Cal.len 1 m-6 else if k=3 then d-6 else d
def winHigh (k d m:Int):Int:=if k=1 then Cal.len 4 m else if k=2 then d+6 else d
theorem kinds {k wk d m:Int} (h:fits k wk d m=true):k=1∨k=0∨k=2∨k=3:=by
 obtain ⟨_,_,_,h⟩:=fits_spec h
 omega
theorem days31 {k wk d m:Int} (h:fits k wk d m=true):0≤d∧d≤31∧0≤wk∧wk≤6:=by
 obtain ⟨_,_,_,h⟩:=fits_spec h
 omega
def dayI (k wk d y m:Int):Int:=
 if k=1 then (Cal.days y m 1+Cal.len y m-1)-backI (Cal.days y m 1+Cal.len y m-1) wk
 else if k=2 then (Cal.days y m 1+d-1)+(6-backI (Cal.days y m 1+d-1+6) wk)
 else if k=3 then (Cal.days y m 1+d-1)-backI (Cal.days y m 1+d-1) wk
 else Cal.days y m 1+d-1
theorem backI_bd (n wk:Int):0≤backI n wk∧backI n wk≤6:=by unfold backI;omega
theorem right_first {y m:Int} (h1: -40000≤y) (h2:y≤40000) (h3:1≤m) (h4:m≤12):Civ.right y m 1=true:=by
 have:=Cal.len_bd y m h3 h4
 unfold Civ.right
 simp only [Bool.and_eq_true,decide_eq_true_eq]
 omega
theorem first_bd {y m:Int} (h1: -40000≤y) (h2:y≤40000) (h3:1≤m) (h4:m≤12): -16000000≤Cal.days y m 1∧Cal.days y m 1≤16000000:=by
 have:=Cal.ahead_bd y (by omega) (by omega)
 have:=Cal.cum_bd y m h3 h4
 have:=Cal.len_bd y m h3 h4
 have:=Cal.lp_01 y
 unfold Cal.days;omega
theorem back' (n wk:Int) (h0: -9000000000000000000≤n) (h1:n≤9000000000000000000) (h2:0≤wk) (h3:wk≤6) (w:World):
 Calls Tryz.prog 297 #[.int .i64 n,.int .i64 wk] w fun e w'=>∃ r,e= .returned (.int .i64 r)∧r=backI n wk∧0≤r∧r≤6∧Below w.heap.size w w':=
 (back n wk h0 h1 h2 h3 w).mono fun _ _ ⟨he,hb⟩=>⟨_,he,rfl,(backI_bd n wk).1,(backI_bd n wk).2,hb⟩
set_option maxHeartbeats 1600000 in
theorem Days (k wk d y m:Int) (w:World):Calls Tryz.prog 266 #[.agg #[.int .i64 k,.int .i64 wk,.int .i64 d],.int .i64 y,.int .i64 m] w fun e w'=>
 e= .returned (if fits k wk d m then (if -39999≤y∧y≤39999 then .tuple #[.int .i64 (dayI k wk d y m),.int .i64 0] else .tuple #[.int .i64 0,.int .i64 1]) else .tuple #[.int .i64 0,.int .i64 4])∧Below w.heap.size w w':=by
 cases h1:fits k wk d m
 case false=>
  have H1:=Lib.hid h1;clear h1
  go_enter Tryz.func266,Tryz.ntmps266
  go_wp2_with (go_at_call 217;refine (Fits _ _ _ _ _).mono ?_;rw [H1.out];rintro e w1 ⟨rfl,hb⟩)
  go_ret2
  exact ⟨rfl,((Below.refl _ _).alloc (Nat.le_refl _) _).trans (hb.mono (by simp))⟩
 case true=>
  by_cases hy: -39999≤y∧y≤39999
  case neg=>
   have H1:=Lib.hid h1;clear h1
   have hw:(decide (-39999≤y)&&decide (y≤39999))=false:=by
    rw [Bool.eq_false_iff];intro h;simp only [Bool.and_eq_true,decide_eq_true_eq] at h;exact hy h
   have HW:=Lib.hid hw;clear hw
   rw [if_pos rfl,if_neg hy]
   clear hy
   go_enter Tryz.func266,Tryz.ntmps266
   go_wp2_with (first|(go_at_call 217;refine (Fits _ _ _ _ _).mono ?_;rw [H1.out];rintro e w1 ⟨rfl,hb⟩;obtain ⟨hc,hfz⟩:=bcell hb)|(go_at_call 273;refine (within _ _ _ _).mono ?_;rw [HW.out];rintro e w2 ⟨rfl,rfl⟩))
   go_ret2
   exact ⟨rfl,((Below.refl _ _).alloc (Nat.le_refl _) _).trans (hb.mono (by simp))⟩
  case pos=>
   rw [if_pos rfl,if_pos hy]
   have hk:=kinds h1
   obtain ⟨d0,d1,w0,w1⟩:=days31 h1
   obtain ⟨m0,m1,_,_⟩:=fits_spec h1
   obtain ⟨y0,y1⟩:=hy
   have H1:=Lib.hid h1;clear h1
   have hw:(decide (-39999≤y)&&decide (y≤39999))=true:=by
    simp only [Bool.and_eq_true,decide_eq_true_eq];exact ⟨y0,y1⟩
   have HW:=Lib.hid hw;clear hw
   have HR:=Lib.hid (right_first (y:=y) (m:=m) (by omega) (by omega) m0 m1)
   have fb:=first_bd (y:=y) (m:=m) (by omega) (by omega) m0 m1
   have l1:=Cal.len_le y m
   unfold dayI
   generalize hF:Cal.days y m 1=F at *
   have HF:=Lib.hid hF;clear hF
   rcases hk with rfl|rfl|rfl|rfl
   all_goals
    simp only [Int.reduceEq,if_true,if_false]
    go_enter Tryz.func266,Tryz.ntmps266
    go_wp2_with (first|(go_at_call 217;refine (Fits _ _ _ _ _).mono ?_;rw [H1.out];rintro e w1 ⟨rfl,hb⟩;obtain ⟨hc,hfz⟩:=bcell hb;have hz:w.heap.size<w1.heap.size:=by (have:=hb.size;simp at this;omega))|(go_at_call 273;refine (within _ _ _ _).mono ?_;rw [HW.out];rintro e w2 ⟨rfl,rfl⟩)|(go_at_call 30;refine (Civ.Days _ _ _ _).mono ?_;rw [HR.out,if_pos rfl,HF.out];rintro e w3 ⟨rfl,hb3⟩;obtain ⟨hc3,hfz3⟩:=bcell hb3;have hz3:=hb3.size)|(go_at_call 131;refine (Civ.Len _ _ _).mono ?_;rintro e w5 ⟨rfl,rfl⟩)|(go_at_call 297;refine (back' _ _ (by omega) (by omega) (by omega) (by omega) _).mono ?_;rintro e w4 ⟨r,rfl,hr,r0,r1,hb4⟩;have HR4:=Lib.hid hr;clear hr))
    go_ret2
    first
     |(refine ⟨ret_ii ?_ rfl,((((Below.refl _ _).alloc (Nat.le_refl _) _).trans (hb.mono (by simp))).trans (hb3.mono (by omega))).trans (hb4.mono (by omega))⟩
       first|(rw [HR4.out];done)|(rw [HR4.out];omega)|(rw [HR4.out,show F+d-1+6=F+d-1+7-1 by omega]))
     |exact ⟨ret_ii (by omega) rfl,(((Below.refl _ _).alloc (Nat.le_refl _) _).trans (hb.mono (by simp))).trans (hb3.mono (by omega))⟩
end Day
end
section
open Go.RowKit NB
structure RuleV where
 name:ByteArray
 fr:Int
 «to» :Int
 month:Int
 kind:Int
 week:Int
 day:Int
 sec:Int
 base:Int
 save:Int
 letter:ByteArray
deriving DecidableEq
def RuleV.cells (r:RuleV):List Value:=[.string r.name,.int .i64 r.fr,.int .i64 r.to,.int .i64 r.month,.int .i64 r.kind,.int .i64 r.week,.int .i64 r.day,.int .i64 r.sec,.int .i64 r.base,.int .i64 r.save,.string r.letter]
def I64 (n:Int):Prop:= -9223372036854775808≤n∧n≤9223372036854775807
structure RuleV.Fit (r:RuleV):Prop where
 n:r.name.size≤9223372036854775807
 l:r.letter.size≤9223372036854775807
 fr:I64 r.fr
 «to» :I64 r.to
 sec:I64 r.sec
 save:I64 r.save
namespace Rul
def may (y:Int):Bool:=decide (-32767≤y)&&decide (y≤32767)
theorem mayC (y:Int) (w:World):Calls Tryz.prog 277 #[.int .i64 y] w fun e w'=>e= .returned (.bool (may y))∧w=w':=by
 unfold may
 go_enter Tryz.func277,Tryz.ntmps277
 go_wp2
 all_goals
  go_ret
  refine ⟨ret_bool ?_,rfl⟩
  simp [*]
  try omega
def StrErr (err:Int) (w:World) (e:Ending) (w':World):Prop:=∃ s:ByteArray,e= .returned (.tuple #[.string s,.int .i64 err])∧Below w.heap.size w w'
def frErr (y:Int):Int:=if may y then 0 else 1
def toErr (fr y:Int):Int:=if may y then (if y<fr then 14 else 0) else 1
theorem FromText (y:Int) (hy:I64 y) (w:World):Calls Tryz.prog 225 #[.int .i64 y] w (StrErr (frErr y) w):=by
 obtain ⟨y0,y1⟩:=hy
 unfold frErr
 cases hm:may y
 ·have Hm:=Lib.hid hm;clear hm
  rw [if_neg (by decide)]
  go_enter Tryz.func225,Tryz.ntmps225
  go_wp2_with (go_at_call 277;refine (mayC _ _).mono ?_;rw [Hm.out];rintro e w' ⟨rfl,rfl⟩)
  go_ret2
  exact ⟨_,rfl,Below.refl _ _⟩
 ·have Hm:=Lib.hid hm;clear hm
  rw [if_pos rfl]
  go_enter Tryz.func225,Tryz.ntmps225
  go_wp2_with (first|(go_at_call 277;refine (mayC _ _).mono ?_;rw [Hm.out];rintro e w' ⟨rfl,rfl⟩)|(go_at_call 278;refine (Txt.Text _ (by omega) (by omega) _).mono ?_;rintro e w2 ⟨r,rfl,hb⟩))
  ·go_ret2
   exact ⟨_,rfl,Below.refl _ _⟩
  ·go_ret2
   exact ⟨_,rfl,hb⟩
theorem ToText (fr y:Int) (hy:I64 y) (w:World):Calls Tryz.prog 224 #[.int .i64 fr,.int .i64 y] w (StrErr (toErr fr y) w):=by
 obtain ⟨y0,y1⟩:=hy
 unfold toErr
 cases hm:may y
 ·have Hm:=Lib.hid hm;clear hm
  rw [if_neg (by decide)]
  go_enter Tryz.func224,Tryz.ntmps224
  go_wp2_with (go_at_call 277;refine (mayC _ _).mono ?_;rw [Hm.out];rintro e w' ⟨rfl,rfl⟩)
  go_ret2
  exact ⟨_,rfl,Below.refl _ _⟩
 ·have Hm:=Lib.hid hm;clear hm
  rw [if_pos rfl]
  by_cases hlt:y<fr
  ·rw [if_pos hlt]
   go_enter Tryz.func224,Tryz.ntmps224
   go_wp2_with (go_at_call 277;refine (mayC _ _).mono ?_;rw [Hm.out];rintro e w' ⟨rfl,rfl⟩)
   go_ret2
   exact ⟨_,rfl,Below.refl _ _⟩
  ·rw [if_neg hlt]
   go_enter Tryz.func224,Tryz.ntmps224
   go_wp2_with (first|(go_at_call 277;refine (mayC _ _).mono ?_;rw [Hm.out];rintro e w' ⟨rfl,rfl⟩)|(go_at_call 278;refine (Txt.Text _ (by omega) (by omega) _).mono ?_;rintro e w2 ⟨r,rfl,hb⟩))
   all_goals
    go_ret2
    first
     |exact ⟨_,rfl,hb⟩
     |exact ⟨_,rfl,Below.refl _ _⟩
def clockRight (sec base:Int):Bool:=decide (0≤base∧base≤2∧0≤sec∧sec≤172800)
theorem ClockRight (sec base:Int) (w:World):Calls Tryz.prog 218 #[.agg #[.int .i64 sec,.int .i64 base]] w fun e w'=>e= .returned (.bool (clockRight sec base))∧Below w.heap.size w w':=by
 go_enter Tryz.func218,Tryz.ntmps218
 go_wp2
 all_goals
  go_ret
  refine ⟨ret_bool ?_,(Below.refl _ _).alloc (Nat.le_refl _) _⟩
  unfold clockRight
  rw [Bool.eq_iff_iff]
  simp only [beq_iff_eq,beq_eq_false_iff_ne,ne_eq,decide_eq_true_eq,Bool.false_eq_true,false_iff] at *
  omega
def saves (n:Int):Bool:=decide (-10800≤n)&&decide (n≤10800)
theorem Saves (n:Int) (w:World):Calls Tryz.prog 227 #[.int .i64 n] w fun e w'=>e= .returned (.bool (saves n))∧w=w':=by
 unfold saves
 go_enter Tryz.func227,Tryz.ntmps227
 go_wp2
 all_goals
  go_ret
  refine ⟨ret_bool ?_,rfl⟩
  simp [*]
  try omega
def letErr (s:ByteArray):Int:=if Fmt.letterOK s then 0 else 4
theorem LetterText' (s:ByteArray) (hs:s.size≤9223372036854775807) (w:World):Calls Tryz.prog 226 #[.string s] w fun e w'=>e= .returned (.tuple #[.string (Fmt.ltext s),.int .i64 (letErr s)])∧Below w.heap.size w w':=Fmt.LetterText s hs w
def right (r:RuleV):Bool:=((toErr r.fr r.to==0)&&(frErr r.fr==0)&&(letErr r.letter==0))&&(Nam.nameE r.name==0)&&Day.fits r.kind r.week r.day r.month&&clockRight r.sec r.base&&saves r.save
set_option maxHeartbeats 3200000 in
theorem Right (r:RuleV) (hr:r.Fit) (w:World):Calls Tryz.prog 162 #[.agg r.cells.toArray] w fun e w'=>e= .returned (.bool (right r))∧Below w.heap.size w w':=by
 obtain ⟨hn,hl,hfr,hto,hsec,hsave⟩:=hr
 have Hfr:=Lib.hid hfr
 have Hto:=Lib.hid hto
 clear hfr hto hsec hsave
 unfold RuleV.cells
 go_enter Tryz.func162,Tryz.ntmps162
 go_wp2_with (first
  |(go_at_call 224;refine (ToText _ _ Hto.out _).mono ?_;rintro e w1 ⟨s1,rfl,hb1⟩;obtain ⟨hc1,hf1⟩:=bcell hb1;have hz1:w.heap.size<w1.heap.size:=by (have:=hb1.size;simp at this;omega))
  |(go_at_call 225;refine (FromText _ Hfr.out _).mono ?_;rintro e w2 ⟨s2,rfl,hb2⟩;obtain ⟨hc2,hf2⟩:=bcell hb2;have hz2:w.heap.size<w2.heap.size:=by (have:=hb2.size;omega))
  |(go_at_call 226;refine (LetterText' _ hl _).mono ?_;rintro e w3 ⟨rfl,hb3⟩;obtain ⟨hc3,hf3⟩:=bcell hb3;have hz3:w.heap.size<w3.heap.size:=by (have:=hb3.size;omega))
  |(go_at_call 157;refine (Nam.Name _ hn _).mono ?_;rintro e w4 ⟨rfl,hb4⟩;obtain ⟨hc4,hf4⟩:=bcell hb4;have hz4:w.heap.size<w4.heap.size:=by (have:=hb4.size;omega))
  |(go_at_call 217;refine (Day.Fits _ _ _ _ _).mono ?_;rintro e w5 ⟨rfl,hb5⟩;obtain ⟨hc5,hf5⟩:=bcell hb5;have hz5:w.heap.size<w5.heap.size:=by (have:=hb5.size;omega))
  |(go_at_call 218;refine (ClockRight _ _ _).mono ?_;rintro e w6 ⟨rfl,hb6⟩;obtain ⟨hc6,hf6⟩:=bcell hb6;have hz6:w.heap.size<w6.heap.size:=by (have:=hb6.size;omega))
  |(go_at_call 227;refine (Saves _ _).mono ?_;rintro e w7 ⟨rfl,rfl⟩))
 all_goals
  go_ret
  refine ⟨ret_bool ?_,?_⟩
  ·simp [right, *]
  ·first
    |exact ((((((((Below.refl _ _).alloc (Nat.le_refl _) _).trans (hb1.mono (by simp))).trans (hb2.mono (by omega))).trans (hb3.mono (by omega))).trans (hb4.mono (by omega))).trans (hb5.mono (by omega))).trans (hb6.mono (by omega)))
    |exact (((((((Below.refl _ _).alloc (Nat.le_refl _) _).trans (hb1.mono (by simp))).trans (hb2.mono (by omega))).trans (hb3.mono (by omega))).trans (hb4.mono (by omega))).trans (hb5.mono (by omega)))
    |exact ((((((Below.refl _ _).alloc (Nat.le_refl _) _).trans (hb1.mono (by simp))).trans (hb2.mono (by omega))).trans (hb3.mono (by omega))).trans (hb4.mono (by omega)))
    |exact (((((Below.refl _ _).alloc (Nat.le_refl _) _).trans (hb1.mono (by simp))).trans (hb2.mono (by omega))).trans (hb3.mono (by omega)))
end Rul
end
section
open Go.RowKit NB
namespace Rul
theorem right_spec {r:RuleV} (h:right r=true):(-32767≤r.fr∧r.fr≤r.to∧r.to≤32767)∧Day.fits r.kind r.week r.day r.month=true∧(0≤r.base∧r.base≤2∧0≤r.sec∧r.sec≤172800)∧(-10800≤r.save∧r.save≤10800):=by
 unfold right at h
 simp only [Bool.and_eq_true,beq_iff_eq] at h
 obtain ⟨⟨⟨⟨⟨⟨h1,h2⟩,_⟩,_⟩,h5⟩,h6⟩,h7⟩:=h
 have hc:=of_decide_eq_true h6
 unfold saves at h7
 simp only [Bool.and_eq_true,decide_eq_true_eq] at h7
 unfold toErr may at h1
 unfold frErr may at h2
 refine ⟨?_,h5,hc,h7⟩
 by_cases a:(decide (-32767≤r.to)&&decide (r.to≤32767))=true
 ·rw [if_pos a] at h1
  by_cases b:(decide (-32767≤r.fr)&&decide (r.fr≤32767))=true
  ·simp only [Bool.and_eq_true,decide_eq_true_eq] at a b
   by_cases c:r.to<r.fr
   ·rw [if_pos c] at h1;cases h1
   ·omega
  ·rw [if_neg b] at h2;cases h2
 ·rw [if_neg a] at h1;cases h1
end Rul
end
section
open Go.Shelf
def Tryz.lays145_ren:Go.Shelf.Ren:=⟨fun|145=>270|220=>298|219=>316|217=>274|225=>333|224=>334|267=>335|266=>300|314=>344|n=>n,fun|9=>9|4=>4|59=>288|3=>3|5=>5|46=>206|146=>339|51=>338|n=>n,fun|1=>1|n=>n⟩
theorem Tryz.lays145:Go.Proofs.Lays.n145 Tryz.prog Tryz.lays145_ren:={
 mixed:=by kernel_rfl,
 f145:=Tryz.func270.trans (congrArg some (by kernel_rfl)),
 f217:=Tryz.func274.trans (congrArg some (by kernel_rfl)),
 f219:=Tryz.func316.trans (congrArg some (by kernel_rfl)),
 f220:=Tryz.func298.trans (congrArg some (by kernel_rfl)),
 f224:=Tryz.func334.trans (congrArg some (by kernel_rfl)),
 f225:=Tryz.func333.trans (congrArg some (by kernel_rfl)),
 f266:=Tryz.func300.trans (congrArg some (by kernel_rfl)),
 f267:=Tryz.func335.trans (congrArg some (by kernel_rfl)),
 f314:=Tryz.func344.trans (congrArg some (by kernel_rfl)),
 t3:=Tryz.underlying3,
 a3:=Tryz.isAgg3,
 z3:=Tryz.sizeOf3,
 v3:=Tryz.zeroValue3,
 t4:=Tryz.underlying4,
 a4:=Tryz.isAgg4,
 z4:=Tryz.sizeOf4,
 v4:=Tryz.zeroValue4,
 t5:=Tryz.underlying5,
 a5:=Tryz.isAgg5,
 z5:=Tryz.sizeOf5,
 v5:=Tryz.zeroValue5,
 t9:=Tryz.underlying9,
 a9:=Tryz.isAgg9,
 z9:=Tryz.sizeOf9,
 v9:=Tryz.zeroValue9,
 t46:=Tryz.underlying206,
 a46:=Tryz.isAgg206,
 z46:=Tryz.sizeOf206,
 v46:=Tryz.zeroValue206,
 t51:=Tryz.underlying338,
 a51:=Tryz.isAgg338,
 z51:=Tryz.sizeOf338,
 v51:=Tryz.zeroValue338,
 t59:=Tryz.underlying288,
 a59:=Tryz.isAgg288,
 z59:=Tryz.sizeOf288,
 v59:=Tryz.zeroValue288,
 t146:=Tryz.underlying339,
 a146:=Tryz.isAgg339,
 z146:=Tryz.sizeOf339,
 v146:=Tryz.zeroValue339,
 g1:=by kernel_rfl}
open Go.RowKit NB
def Tab (w:World):Prop:=∃ m,w.cell? ⟨1,0,none⟩=some (.int .i64 m)
theorem Tab.lt {w:World} (h:Tab w):1<w.heap.size:=by
 obtain ⟨m,hm⟩:=h
 unfold World.cell? at hm
 cases hh:w.heap[1]? with
 |none=>simp only [hh] at hm;cases hm
 |some o=>exact (Array.getElem?_eq_some_iff.1 hh).1
theorem Tab.later {w w':World} (h:Tab w) (hb:Below w.heap.size w w'):Tab w':=by
 have hl:=h.lt
 obtain ⟨m,hm⟩:=h
 exact ⟨m,(hb.cell (p:=⟨1,0,none⟩) hl).trans hm⟩
namespace Lb
theorem Cut (s sep:ByteArray) (w:World) (hs:s.size<4294967281) (hm:Tab w):
 Calls Tryz.prog 270 #[.string s,.string sep] w fun e w'=>e= .returned (.tuple #[.string ⟨(Go.Lib.cut s.data.toList sep.data.toList).1.toArray⟩,.string ⟨(Go.Lib.cut s.data.toList sep.data.toList).2.1.toArray⟩,.bool (Go.Lib.cut s.data.toList sep.data.toList).2.2])∧Below w.heap.size w w':=by
 obtain ⟨m,hm⟩:=hm
 exact (Any.strings_Cut Tryz.lays145 s sep m w hs hm).mono fun _ _ ⟨he,n,hw⟩=>⟨he,by rw [hw];exact below_drewN (Below.refl _ _) n⟩
end Lb
end
section
open Go.RowKit NB
namespace Fmt
def wd (l:List UInt8):Bool:=l.all (wset.contains ·)
theorem wordB_mk (l:List UInt8):wordB ⟨l.toArray⟩=wd l:=by unfold wordB wd;rfl
def cutF (s:ByteArray):Int×ByteArray×ByteArray:=
 let c1:=Go.Lib.cut s.data.toList [37,115]
 let c2:=Go.Lib.cut s.data.toList [47]
 if s.toList=[37,122] then (3,⟨#[]⟩,⟨#[]⟩)
 else if c1.2.2=true∧wd c1.1=true∧wd c1.2.1=true then (2,⟨c1.1.toArray⟩,⟨c1.2.1.toArray⟩)
 else if c2.2.2=true∧c2.1≠[]∧c2.2.1≠[]∧wd c2.1=true∧wd c2.2.1=true then (4,⟨c2.1.toArray⟩,⟨c2.2.1.toArray⟩)
 else if s.toList≠[]∧wordB s=true then (1,s,⟨#[]⟩)
 else (0,⟨#[]⟩,⟨#[]⟩)
def checkE (s:ByteArray):Int:=if 16<s.size then 9 else if (cutF s).1=0 then 4 else 0
theorem cut_size (s sep:List UInt8):(Go.Lib.cut s sep).1.length≤s.length∧(Go.Lib.cut s sep).2.1.length≤s.length:=by
 unfold Go.Lib.cut
 split
 ·exact ⟨List.length_take_le' _ _,by simp⟩
 ·exact ⟨Nat.le_refl _,Nat.zero_le _⟩
theorem isE (l:List UInt8):(⟨l.toArray⟩:ByteArray).toList.isEmpty=decide (l=[]):=by
 rw [emp]
 cases l<;>simp
set_option maxHeartbeats 3200000 in
theorem cut (s:ByteArray) (hs:s.size<4294967281) (w:World) (ht:Tab w):Calls Tryz.prog 215 #[.string s] w fun e w'=>e= .returned (.tuple #[.int .i64 (cutF s).1,.string (cutF s).2.1,.string (cutF s).2.2])∧Below w.heap.size w w':=by
 have hc1:=fun W (h:Tab W)=>Lb.Cut s ⟨#[37,115]⟩ W hs h
 have hc2:=fun W (h:Tab W)=>Lb.Cut s ⟨#[47]⟩ W hs h
 have z1:=cut_size s.data.toList [37,115]
 have z2:=cut_size s.data.toList [47]
 simp only [Array.length_toList] at z1 z2
 have hsz:s.data.size=s.size:=rfl
 unfold cutF
 simp only at hc1 hc2 ⊢
 generalize Go.Lib.cut s.data.toList [37,115]=c1 at *
 generalize Go.Lib.cut s.data.toList [47]=c2 at *
 obtain ⟨a1,b1,i1⟩:=c1
 obtain ⟨a2,b2,i2⟩:=c2
 simp only at hc1 hc2 z1 z2 ⊢
 have wa1:=fun W=>word ⟨a1.toArray⟩ (by show a1.toArray.size≤_;simp;omega) W
 have wb1:=fun W=>word ⟨b1.toArray⟩ (by show b1.toArray.size≤_;simp;omega) W
 have wa2:=fun W=>word ⟨a2.toArray⟩ (by show a2.toArray.size≤_;simp;omega) W
 have wb2:=fun W=>word ⟨b2.toArray⟩ (by show b2.toArray.size≤_;simp;omega) W
 have ws:=fun W=>word s (by omega) W
 rw [wordB_mk] at wa1 wb1 wa2 wb2
 have ea:=isE a2
 have eb:=isE b2
 generalize wd a1=g1 at *
 generalize wd b1=g2 at *
 generalize wd a2=g3 at *
 generalize wd b2=g4 at *
 generalize wordB s=g5 at *
 obtain ⟨A1,hA1⟩:∃ x,x=(⟨a1.toArray⟩:ByteArray):=⟨_,rfl⟩
 obtain ⟨B1,hB1⟩:∃ x,x=(⟨b1.toArray⟩:ByteArray):=⟨_,rfl⟩
 obtain ⟨A2,hA2⟩:∃ x,x=(⟨a2.toArray⟩:ByteArray):=⟨_,rfl⟩
 obtain ⟨B2,hB2⟩:∃ x,x=(⟨b2.toArray⟩:ByteArray):=⟨_,rfl⟩
 rw [← hA1] at hc1 wa1 ⊢
 rw [← hB1] at hc1 wb1 ⊢
 rw [← hA2] at hc2 wa2 ea ⊢
 rw [← hB2] at hc2 wb2 eb ⊢
 have Hc1:=Lib.hid hc1
 have Hc2:=Lib.hid hc2
 have Wa1:=Lib.hid wa1
 have Wb1:=Lib.hid wb1
 have Wa2:=Lib.hid wa2
 have Wb2:=Lib.hid wb2
 have Ws:=Lib.hid ws
 have HT:=Lib.hid ht
 obtain ⟨ne,hne⟩:∃ x:Bool,x=decide (s.toList=[]):=⟨_,rfl⟩
 have es:s.toList.isEmpty=ne:=by rw [hne];cases h:s.toList<;>simp
 clear hc1 hc2 wa1 wb1 wa2 wb2 ws hA1 hB1 hA2 hB2 z1 z2 hsz ht
 by_cases hz:s.toList=[37,122]
 ·have e1:(s.toList==[37,122])=true:=by simp [hz]
  rw [if_pos hz]
  clear hz hne es
  go_enter Tryz.func215,Tryz.ntmps215
  go_wp2
  go_ret3
  exact ⟨rfl,bcq⟩
 have e1:(s.toList==[37,122])=false:=by simp [hz]
 rw [if_neg hz]
 have en:(s.toList≠[]↔ne=false):=by rw [hne];simp
 have ea':(a2≠[]↔¬A2.toList=[]):=by rw [← List.isEmpty_iff,ea];simp
 have eb':(b2≠[]↔¬B2.toList=[]):=by rw [← List.isEmpty_iff,eb];simp
 simp only [en,ea',eb']
 clear hz hne en ea eb ea' eb'
 obtain ⟨pe,hpe⟩:∃ x:Int×ByteArray×ByteArray,x=(if i1=true∧g1=true∧g2=true then (2,A1,B1) else if i2=true∧¬A2.toList=[]∧¬B2.toList=[]∧g3=true∧g4=true then (4,A2,B2) else if ne=false∧g5=true then (1,s,⟨#[]⟩) else (0,⟨#[]⟩,⟨#[]⟩)):=⟨_,rfl⟩
 rw [← hpe]
 have Hpe:=Lib.hid hpe
 clear hpe
 go_enter Tryz.func215,Tryz.ntmps215
 go_wp2_with (first
  |(go_at_call_of 270 (({ data:= #[37,115]}:ByteArray));refine (Hc1.out _ ?_).mono ?_;(· exact HT.out.later bcq);rintro e w1 ⟨rfl,hb1⟩)
  |(go_at_call_of 270 (({ data:= #[47]}:ByteArray));refine (Hc2.out _ ?_).mono ?_;(· exact HT.out.later bcq);rintro e w4 ⟨rfl,hb4⟩)
  |(with_reducible (go_at_call 271;(with_reducible refine (Wa1.out _).mono ?_);rintro e w2 ⟨rfl,hb2⟩;obtain ⟨hc2,hf2⟩:=bcell hb2))
  |(with_reducible (go_at_call 271;(with_reducible refine (Wb1.out _).mono ?_);rintro e w3 ⟨rfl,hb3⟩;obtain ⟨hc3,hf3⟩:=bcell hb3))
  |(with_reducible (go_at_call 271;(with_reducible refine (Wa2.out _).mono ?_);rintro e w5 ⟨rfl,hb5⟩;obtain ⟨hc5,hf5⟩:=bcell hb5))
  |(with_reducible (go_at_call 271;(with_reducible refine (Wb2.out _).mono ?_);rintro e w6 ⟨rfl,hb6⟩;obtain ⟨hc6,hf6⟩:=bcell hb6))
  |(with_reducible (go_at_call 271;(with_reducible refine (Ws.out _).mono ?_);rintro e w7 ⟨rfl,hb7⟩;obtain ⟨hc7,hf7⟩:=bcell hb7)))
 all_goals
  have hpe:=Hpe.out
  simp only [*,if_true,if_false,true_and,and_true,false_and,and_false,Bool.false_eq_true,Bool.true_eq_false,eq_self,not_true_eq_false,not_false_eq_true] at hpe
  clear Hpe
  first
   |(subst hpe;go_ret3;exact ⟨rfl,bcq⟩)
   |(cases g4
     ·(simp only [Bool.false_eq_true,if_false] at hpe;subst hpe;go_ret3;exact ⟨rfl,bcq⟩)
     ·(exfalso;rename_i h0 h1;clear hpe;first|(simp only [List.isEmpty_eq_false_iff,Bool.not_eq_false',List.isEmpty_iff, *,Bool.true_eq_false,or_false,or_self] at h0;done)|simp_all))
theorem Check (s:ByteArray) (hs:s.size≤9223372036854775807) (w:World) (ht:Tab w):Calls Tryz.prog 155 #[.string s] w fun e w'=>e= .returned (.int .i64 (checkE s))∧Below w.heap.size w w':=by
 unfold checkE
 by_cases h:16<s.size
 ·rw [if_pos h]
  go_enter Tryz.func155,Tryz.ntmps155
  go_wp2
  go_ret
  exact ⟨rfl,bcq⟩
 ·rw [if_neg h]
  have cc:=fun W (h':Tab W)=>cut s (by omega) W h'
  generalize cutF s=x at *
  obtain ⟨k,a,b⟩:=x
  simp only at cc ⊢
  have Cc:=Lib.hid cc
  have HT:=Lib.hid ht
  clear cc ht
  by_cases hk:k=0
  ·rw [if_pos hk]
   go_enter Tryz.func155,Tryz.ntmps155
   go_wp2_with (go_at_call 215;(with_reducible refine (Cc.out _ ?_).mono ?_);(· exact HT.out.later bcq);rintro e w1 ⟨rfl,hb1⟩;obtain ⟨hc1,hf1⟩:=bcell hb1)
   go_ret
   exact ⟨rfl,bcq⟩
  ·rw [if_neg hk]
   go_enter Tryz.func155,Tryz.ntmps155
   go_wp2_with (go_at_call 215;(with_reducible refine (Cc.out _ ?_).mono ?_);(· exact HT.out.later bcq);rintro e w1 ⟨rfl,hb1⟩;obtain ⟨hc1,hf1⟩:=bcell hb1)
   go_ret
   exact ⟨rfl,bcq⟩
end Fmt
end
end Go.Proofs.YtgmfojgnjdpofaaGreatDoor
