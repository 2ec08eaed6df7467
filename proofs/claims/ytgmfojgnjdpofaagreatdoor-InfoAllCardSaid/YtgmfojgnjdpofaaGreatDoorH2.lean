import Derived.Test.YtgmfojgnjdpofaaGreatDoorH1
import Derived.Test.YtgmfojgnjdpofaaGreatDoorProg
import Derived.Shelf.Strings.Cut
namespace Go.Proofs.YtgmfojgnjdpofaaGreatDoor
open Go.Proofs.Tryz
section
open Go.RowKit NB
namespace Nam
def okFirst (c:UInt8):Bool:=(decide (97≤(c ||| 32).toNat)&&decide ((c ||| 32).toNat≤122))||c==95
def okOther (c:UInt8):Bool:=(decide (48≤c.toNat)&&decide (c.toNat≤57))||decide (0≤Go.Lib.indexByte [45,43,47,46] c)
def okAt (l:List UInt8) (j:Nat):Bool:=match l[j]? with
 |none=>true
 |some c=>okFirst c||(decide (0<j)&&okOther c)
def okAll (l:List UInt8):Bool:=(List.range l.length).all (okAt l)
def nameR (s:ByteArray):Int:=if okAll s.data.toList then (if s.data.toList=[] then 10 else 0) else 10
def nameE (s:ByteArray):Int:=if 64<s.size then 9 else nameR s
theorem or32 (c:UInt8):bits .or .u8 (c.toNat:Int) 32=((c ||| 32).toNat:Int):=by
 rw [u8_or _ _ (by omega) (by have:=c.toNat_lt;omega) (by omega) (by omega)];simp [UInt8.toNat_or]
theorem okAt_iff {l:List UInt8} {k:Nat} {c:UInt8} (h:l[k]? =some c):
 okAt l k=true↔(97≤((c ||| 32).toNat:Int)∧((c ||| 32).toNat:Int)≤122)∨(c.toNat:Int)=95∨(0<(k:Int)∧((48≤(c.toNat:Int)∧(c.toNat:Int)≤57)∨0≤Go.Lib.indexByte [45,43,47,46] c)):=by
 have e:(c==95)=true↔(c.toNat:Int)=95:=by
  rw [beq_iff_eq]
  constructor
  ·rintro rfl;rfl
  ·intro h;apply UInt8.toNat_inj.1;show c.toNat=95;omega
 unfold okAt okFirst okOther;rw [h];simp only [Bool.or_eq_true,Bool.and_eq_true,decide_eq_true_eq,e];omega
theorem all_succ {l:List UInt8} {k:Nat} (h:(List.range k).all (okAt l)=true) (h2:okAt l k=true):(List.range (k+1)).all (okAt l)=true:=by
 rw [List.range_succ,List.all_append,h];simp [h2]
theorem not_all {l:List UInt8} {k:Nat} (hk:k<l.length) (h2:¬okAt l k=true):okAll l=false:=by
 unfold okAll;rw [Bool.eq_false_iff];intro h;exact h2 (List.all_eq_true.1 h k (List.mem_range.2 hk))
set_option maxRecDepth 100000 in
set_option maxHeartbeats 1600000 in
theorem Name_le (s:ByteArray) (hs:s.size≤64) (w:World):Calls prog 157 #[.string s] w fun e w'=>e=.returned (.int .i64 (nameR s))∧Below w.heap.size w w':=by
 obtain ⟨cap,o,hrun,hcell⟩:=Lb.bytes_of w s;have Hcell:=kj hcell;clear hcell;have hlen:s.data.toList.length=s.size:=by simp
 have Hlen:=kj hlen;clear hlen;have hB:Below w.heap.size w (w.alloc o).drew:=((Below.refl _ _).alloc (Nat.le_refl _) _).drew;have HB:=kj hB;clear hB;go_enter func157,ntmps157;go_wp2
 go_loop [11] (fun i=>∃ k:Nat,k≤s.size∧i=.int .i64 k∧(List.range k).all (okAt s.data.toList)=true) (fun i=>s.size-(intOf i).toNat)
 case atStart=>exact ⟨0,Nat.zero_le _,rfl,rfl⟩
 case round=>
  obtain ⟨k,hk,rfl,hall⟩:=hrel;have Hall:=kj hall;clear hall
  by_cases hlt:k<s.size
  ·obtain ⟨c,hc⟩:∃ c,s.data.toList[k]? =some c:=⟨s.data.toList[k]'(by rw [Hlen.out];exact hlt),by simp⟩;have c1:=Hcell.out k c hc;have hiff:=kj (okAt_iff hc);have Hc:=kj hc;clear hc;have hor:=or32 c;have hcb:(c.toNat:Int)<256:=by have:=c.toNat_lt;omega
   generalize (c ||| 32).toNat=t at hor hiff;generalize hix:Go.Lib.indexByte [45,43,47,46] c=ix at hiff;have hcu:(c.toNat:Int).toNat.toUInt8=c:=by simp
   rw [← hcu] at hix;have Hix:=kj hix;clear hix hcu
   go_wp2_with (go_at_call 219;refine (Lb.IndexByte _ _ _).mono ?_;rw [Hix.out];rintro e w' ⟨rfl,rfl⟩)
   all_goals
    first
     |(go_round
       case rel=>
        refine ⟨k+1,by omega,by go_num,all_succ Hall.out (hiff.out.2 ?_)⟩;simp only [beq_iff_eq,beq_eq_false_iff_ne,ne_eq] at *;omega
       case measure=>simp [intOf];omega)
     |(go_ret
       refine ⟨ret_int ?_,HB.out⟩;unfold nameR;rw [not_all (k:=k) (by rw [Hlen.out];exact hlt) (by
        rw [hiff.out];simp only [beq_eq_false_iff_ne,ne_eq] at *;omega)]
       rfl)
  ·have hks:k=s.size:=by omega
   have hfin:okAll s.data.toList=true:=by
    unfold okAll;rw [Hlen.out, ←hks];exact Hall.out
   have Hfin:=kj hfin;clear hfin hks
   by_cases he:s.toList=[]
   ·have e1:s.toList.isEmpty=true:=by simp [he]
    have e2:s.data.toList=[]:=by rw [← ByteArray.toList_eq];exact he
    have E2:=kj e2;clear e2 he;go_wp2;go_ret;refine ⟨ret_int ?_,HB.out⟩;unfold nameR;rw [if_pos Hfin.out,if_pos E2.out]
   ·have e1:s.toList.isEmpty=false:=by simp [he]
    have e2:¬s.data.toList=[]:=by rw [← ByteArray.toList_eq];exact he
    have E2:=kj e2;clear e2 he;go_wp2;go_ret;refine ⟨ret_int ?_,HB.out⟩;unfold nameR;rw [if_pos Hfin.out,if_neg E2.out]
theorem Name (s:ByteArray) (hm:s.size≤9223372036854775807) (w:World):Calls prog 157 #[.string s] w fun e w'=>e=.returned (.int .i64 (nameE s))∧Below w.heap.size w w':=by
 unfold nameE
 by_cases h:64<s.size
 ·rw [if_pos h];go_enter func157,ntmps157;go_wp2;go_ret;exact ⟨rfl,Below.refl _ _⟩
 ·rw [if_neg h];exact Name_le s (by omega) w
end Nam
end
section
open Go.RowKit NB
namespace Fmt
def wset:List UInt8:=[65,66,67,68,69,70,71,72,73,74,75,76,77,78,79,80,81,82,83,84,85,86,87,88,89,90,97,98,99,100,101,102,103,104,105,106,107,108,109,110,111,112,113,114,115,116,117,118,119,120,121,122,48,49,50,51,52,53,54,55,56,57,43,45]
def wordB (s:ByteArray):Bool:=s.data.toList.all (wset.contains ·)
theorem dropWhile_nil {l:List UInt8} {p:UInt8→Bool}:l.dropWhile p=[]↔l.all p=true:=by
 induction l with
 |nil=>simp
 |cons a l ih=>
  by_cases h:p a=true
  ·simp [h,ih]
  ·simp [h]
theorem trim_nil (l cs:List UInt8):Go.Lib.trimS l cs=[]↔l.all (cs.contains ·)=true:=by
 unfold Go.Lib.trimS Go.Lib.trimLeftS Go.Lib.trimRightS;rw [dropWhile_nil]
 constructor
 ·intro h;have h2:(l.reverse.dropWhile (cs.contains ·)).all (cs.contains ·)=true:=by
   rw [← List.all_reverse];exact h
  rcases hd:l.reverse.dropWhile (cs.contains ·) with _|⟨a,t⟩
  ·rw [dropWhile_nil,List.all_reverse] at hd;exact hd
  ·have:=List.head_dropWhile_not (l:=l.reverse) (cs.contains ·) (by rw [hd];simp);simp only [hd,List.head_cons] at this;rw [hd] at h2;simp only [List.all_cons,Bool.and_eq_true] at h2;rw [this] at h2;exact absurd h2.1 (by simp)
 ·intro h;have:l.reverse.dropWhile (cs.contains ·)=[]:=by rw [dropWhile_nil,List.all_reverse];exact h
  rw [this];rfl
theorem emp (l:List UInt8):(⟨l.toArray⟩:ByteArray).toList.isEmpty=l.isEmpty:=by rw [ByteArray.toList_eq]
theorem word (s:ByteArray) (hs:s.size≤9223372036854775807) (w:World):Calls prog 271 #[.string s] w fun e w'=>e=.returned (.bool (wordB s))∧Below w.heap.size w w':=by
 have hcon:=Lb.Trim s ⟨#[65,66,67,68,69,70,71,72,73,74,75,76,77,78,79,80,81,82,83,84,85,86,87,88,89,90,97,98,99,100,101,102,103,104,105,106,107,108,109,110,111,112,113,114,115,116,117,118,119,120,121,122,48,49,50,51,52,53,54,55,56,57,43,45]⟩ w hs (by decide) (ascii_of_all (by decide));have hf:(⟨(Go.Lib.trimS s.data.toList wset).toArray⟩:ByteArray).toList.isEmpty=wordB s:=by
  rw [emp,Bool.eq_iff_iff,List.isEmpty_iff,trim_nil];rfl
 change Calls prog 299 _ _ (fun e w'=>e=.returned (.string ⟨(Go.Lib.trimS s.data.toList wset).toArray⟩)∧Below w.heap.size w w') at hcon
 rw [← hf];generalize (⟨(Go.Lib.trimS s.data.toList wset).toArray⟩:ByteArray)=r at hcon ⊢;clear hf;have Hcon:=kj hcon;clear hcon;go_enter func271,ntmps271
 go_wp2_with (go_at_call 299;refine Hcon.out.mono ?_;rintro e w' ⟨rfl,hB⟩)
 go_ret;exact ⟨rfl,hB⟩
def letS (s:ByteArray):ByteArray:=if s.toList=[45]∨6<s.size∨s.toList=[]∨wordB s=false then ⟨#[]⟩ else s
def letE (s:ByteArray):Int:=if s.toList=[45] then 0 else if 6<s.size then 9 else if s.toList=[]∨wordB s=false then 4 else 0
set_option maxHeartbeats 800000 in
theorem Letter (s:ByteArray) (hs:s.size≤9223372036854775807) (w:World):Calls prog 279 #[.string s] w fun e w'=>e=.returned (.tuple #[.string (letS s),.int .i64 (letE s)])∧Below w.heap.size w w':=by
 unfold letS letE
 by_cases h1:s.toList=[45]
 ·have e1:(s.toList==[45])=true:=by simp [h1]
  rw [if_pos (.inl h1),if_pos h1];clear h1;go_enter func279,ntmps279;go_wp2;go_ret2;exact ⟨rfl,Below.refl _ _⟩
 ·have e1:(s.toList==[45])=false:=by simp [h1]
  rw [if_neg h1]
  by_cases h2:6<s.size
  ·rw [if_pos (.inr (.inl h2)),if_pos h2];clear h1;go_enter func279,ntmps279;go_wp2;go_ret2;exact ⟨rfl,Below.refl _ _⟩
  ·rw [if_neg h2]
   by_cases h3:s.toList=[]
   ·have e3:s.toList.isEmpty=true:=by simp [h3]
    rw [if_pos (.inr (.inr (.inl h3))),if_pos (.inl h3)];clear h1;have H3:=kj h3;clear h3;go_enter func279,ntmps279;go_wp2;go_ret2;exact ⟨rfl,Below.refl _ _⟩
   ·have e3:s.toList.isEmpty=false:=by simp [h3]
    cases h4:wordB s
    ·rw [if_pos (.inr (.inr (.inr rfl))),if_pos (.inr rfl)];clear h1 h3;have H4:=kj h4;clear h4;go_enter func279,ntmps279
     go_wp2_with (go_at_call 271;refine (word _ (by omega) _).mono ?_;rw [H4.out];rintro e w' ⟨rfl,hB⟩)
     go_ret2;exact ⟨rfl,hB⟩
    ·rw [if_neg (by simp [h1,h2,h3]),if_neg (by simp [h3])];clear h1 h3;have H4:=kj h4;clear h4;go_enter func279,ntmps279
     go_wp2_with (go_at_call 271;refine (word _ (by omega) _).mono ?_;rw [H4.out];rintro e w' ⟨rfl,hB⟩)
     go_ret2;exact ⟨rfl,hB⟩
def letterOK (s:ByteArray):Bool:=decide (s.toList=[])||(!decide (s.toList=[45])&&decide (s.size≤6)&&wordB s)
theorem letter_ok {s:ByteArray} (h:s.toList≠[]):letterOK s=true↔letE s=0∧s.toList≠[45]:=by
 unfold letterOK letE
 by_cases h1:s.toList=[45]
 ·simp [h1]
 ·by_cases h2:6<s.size
  ·simp [h1,h2,h];omega
  ·cases h4:wordB s<;>simp [h1,h2,h]<;>omega
def ltext (s:ByteArray):ByteArray:=if s.toList=[] then ⟨#[45]⟩ else if letterOK s then s else ⟨#[]⟩
set_option maxHeartbeats 800000 in
theorem LetterText (s:ByteArray) (hs:s.size≤9223372036854775807) (w:World):Calls prog 226 #[.string s] w fun e w'=>e=.returned (.tuple #[.string (ltext s),.int .i64 (if letterOK s then 0 else 4)])∧Below w.heap.size w w':=by
 unfold ltext
 by_cases h1:s.toList=[]
 ·have e1:s.toList.isEmpty=true:=by simp [h1]
  have e2:letterOK s=true:=by unfold letterOK;simp [h1]
  rw [if_pos h1,e2];clear h1 e2;go_enter func226,ntmps226;go_wp2;go_ret2;exact ⟨rfl,Below.refl _ _⟩
 ·have e1:s.toList.isEmpty=false:=by simp [h1]
  rw [if_neg h1];have hk:=letter_ok h1;cases h4:letterOK s
  ·by_cases h5:letE s=0
   ·have h6:s.toList=[45]:=by
     by_cases h6:s.toList=[45]
     ·exact h6
     ·exact absurd (hk.2 ⟨h5,h6⟩) (by rw [h4];simp)
    have h7:letS s=⟨#[]⟩:=by unfold letS;rw [if_pos (.inl h6)]
    have h8:(([]:List UInt8)==s.toList)=false:=by simp [h6]
    have H5:=kj h5;have H7:=kj h7;clear hk h4 h5 h6 h7 h1;go_enter func226,ntmps226
    go_wp2_with (go_at_call 279;refine (Letter _ (by omega) _).mono ?_;rw [H5.out,H7.out];rintro e w' ⟨rfl,hB⟩)
    go_ret2;exact ⟨rfl,hB⟩
   ·have h6:(letE s != 0)=true:=by simp [h5]
    have h6':(letE s==0)=false:=by simp [h5]
    clear hk h4 h5 h1;go_enter func226,ntmps226
    go_wp2_with (go_at_call 279;refine (Letter _ (by omega) _).mono ?_;rintro e w' ⟨rfl,hB⟩)
    go_ret2;exact ⟨rfl,hB⟩
  ·obtain ⟨h5,h6⟩:=hk.1 h4;have h7:letS s=s:=by
    unfold letS;unfold letE at h5;rw [if_neg h6] at h5;rw [if_neg];rintro (h|h|h|h)
    ·exact h6 h
    ·rw [if_pos h] at h5;cases h5
    ·exact h1 h
    ·by_cases h2:6<s.size
     ·rw [if_pos h2] at h5;cases h5
     ·rw [if_neg h2,if_pos (.inr h)] at h5;cases h5
   have H5:=kj h5;have H7:=kj h7;clear hk h4 h5 h6 h7 h1;go_enter func226,ntmps226
   go_wp2_with (go_at_call 279;refine (Letter _ (by omega) _).mono ?_;rw [H5.out,H7.out];rintro e w' ⟨rfl,hB⟩)
   go_ret2;exact ⟨rfl,hB⟩
end Fmt
end
section
open Go.RowKit NB
namespace Num
theorem div_tail (w:World) (n:Nat):Below w.heap.size w (w.drewN n):=⟨rfl,rfl,rfl,Nat.le_refl _,fun _ _=>rfl⟩
set_option maxHeartbeats 400000 in
theorem Div (a b:Int) (h0: -9223372036854775808<a) (h1:a≤9223372036854775807) (h2:1≤b) (h3:b≤4611686018427387904) (w:World):
 Calls prog 132 #[.int .i64 a,.int .i64 b] w fun e w'=>e=.returned (.tuple #[.int .i64 (a/b),.int .i64 (a%b),.int .i64 0])∧Below w.heap.size w w':=by
 have hr:=Int.emod_nonneg a (show b≠0 by omega);have hr2:=Int.emod_lt_of_pos a (show 0<b by omega);have hg:(a== -9223372036854775808)=false:=by simp;omega
 have hb0:(b==0)=false:=by simp;omega
 have hb1:(b== -1)=false:=by simp;omega
 by_cases ha:0≤a
 ·have hq:=Int.ediv_nonneg ha (show 0≤b by omega);have hq2:a/b≤a:=Int.ediv_le_self _ ha;have hx:¬bits .xor .i64 (a%b) b<0:=by
   rw [Pl.xor_neg _ _ (by omega) (by omega) (by omega) (by omega)];omega
  by_cases hz:a%b=0
  ·have hzz:(a%b==0)=true:=by simp [hz]
   clear hx;go_enter func132,ntmps132;go_wp2
   go_quiet (fail)
   go_wp2
   go_ret3
   exact ⟨rfl,div_tail _ _⟩
  ·have hzz:(a%b==0)=false:=by simp [hz]
   have hzn:(a%b != 0)=true:=by simp [hz]
   go_enter func132,ntmps132;go_wp2
   go_quiet (fail)
   go_wp2
   go_ret3
   exact ⟨rfl,div_tail _ _⟩
 ·by_cases hz:a%b=0
  ·have e1:=Pl.tdiv_ex a b hz;have e2:=Pl.tmod_ex a b hz;rw [hz, ←e1];have hq: -9223372036854775808≤a.tdiv b∧a.tdiv b≤0:=by
    rw [e1];have h4:b*(a/b)+a%b=a:=Int.mul_ediv_add_emod a b;rw [hz] at h4;have h5:a/b<0:=Int.ediv_neg_of_neg_of_pos (by omega) (by omega);have h6:(b-1)*(a/b)≤0:=Int.mul_nonpos_of_nonneg_of_nonpos (by omega) (by omega);have h7:(b-1)*(a/b)=b*(a/b)-a/b:=by rw [Int.sub_mul,Int.one_mul]
    omega
   obtain ⟨hq1,hq2⟩:=hq;have hm:a.tmod b=0:=e2;have Hz:=kj hz;have E1:=kj e1;clear hz e1 e2;go_enter func132,ntmps132;go_wp2
   all_goals go_quiet (fail)
   all_goals go_wp2
   all_goals go_ret3
   all_goals exact ⟨rfl,div_tail _ _⟩
  ·have e1:=Pl.tdiv_neg' a b (by omega) (by omega) hz;have e2:=Pl.tmod_neg' a b (by omega) (by omega) hz;have h4:b*(a/b)+a%b=a:=Int.mul_ediv_add_emod a b;have h5:a/b<0:=Int.ediv_neg_of_neg_of_pos (by omega) (by omega);have h6:(b-1)*(a/b+1)≤0:=Int.mul_nonpos_of_nonneg_of_nonpos (by omega) (by omega);have h7:(b-1)*(a/b+1)=b*(a/b)-a/b+b-1:=by rw [Int.sub_mul,Int.one_mul,Int.mul_add];omega
   have q1: -9223372036854775808≤a.tdiv b-1:=by rw [e1];omega
   have q2:a.tdiv b≤0:=by rw [e1];omega
   have r1:a.tmod b<0:=by rw [e2];omega
   have r2: -4611686018427387904≤a.tmod b:=by rw [e2];omega
   have hx:bits .xor .i64 (a.tmod b) b<0:=by
    rw [Pl.xor_neg _ _ (by omega) (by omega) (by omega) (by omega)];omega
   have hzz:(a.tmod b==0)=false:=by simp;omega
   have hzn:(a.tmod b != 0)=true:=by simp;omega
   rw [show a/b=a.tdiv b-1 by omega,show a%b=a.tmod b+b by omega];have E1:=kj e1;have E2:=kj e2;have H4:=kj h4;have H7:=kj h7;have HZ:=kj hz;clear e1 e2 h4 h5 h6 h7 hz hr hr2;go_enter func132,ntmps132;go_wp2
   all_goals go_quiet (fail)
   all_goals go_wp2
   all_goals go_ret3
   all_goals exact ⟨rfl,div_tail _ _⟩
theorem Clamp (n lo hi:Int) (w:World):Calls prog 221 #[.int .i64 n,.int .i64 lo,.int .i64 hi] w fun e w'=>e=.returned (.int .i64 (if n<lo then lo else if hi<n then hi else n))∧w=w':=by
 by_cases h1:n<lo
 ·rw [if_pos h1];go_enter func221,ntmps221;go_wp2;go_ret;exact ⟨rfl,rfl⟩
 ·rw [if_neg h1]
  by_cases h2:hi<n
  ·rw [if_pos h2];go_enter func221,ntmps221;go_wp2;go_ret;exact ⟨rfl,rfl⟩
  ·rw [if_neg h2];go_enter func221,ntmps221;go_wp2;go_ret;exact ⟨rfl,rfl⟩
end Num
end
section
namespace Cal
def leap (y:Int):Bool:=decide (y%4=0)&&(!decide (y%100=0)||decide (y%400=0))
def lp (y:Int):Int:=if leap y then 1 else 0
def leaps (y:Int):Int:=y/4-y/100+y/400
def ahead (y:Int):Int:=365*(y-1970)+leaps (y-1)-leaps 1969
def cum (y m:Int):Int:=
 if m≤1 then 0 else if m=2 then 31 else
 (if m=3 then 59 else if m=4 then 90 else if m=5 then 120 else if m=6 then 151 else if m=7 then 181 else if m=8 then 212 else if m=9 then 243 else if m=10 then 273 else if m=11 then 304 else if m=12 then 334 else 365)+lp y
def len (y m:Int):Int:=
 if m=1∨m=3∨m=5∨m=7∨m=8∨m=10∨m=12 then 31 else if m=4∨m=6∨m=9∨m=11 then 30 else if m=2 then 28+lp y else 0
def days (y m d:Int):Int:=ahead y+cum y m+d-1
def y0 (y m:Int):Int:=if m<3 then y-1 else y
def m0 (m:Int):Int:=if m<3 then m+9 else m-3
def number (y m d:Int):Int:=
 y0 y m/400*146097+y0 y m%400*365+y0 y m%400/4-y0 y m%400/100+((153*m0 m+2)/5+d-1)-719468
theorem lp_eq (y:Int):lp y=(y/4-(y-1)/4)-(y/100-(y-1)/100)+(y/400-(y-1)/400):=by
 unfold lp leap
 by_cases h4:y%4=0<;>by_cases h100:y%100=0<;>by_cases h400:y%400=0<;>simp [h4,h100,h400]<;>omega
theorem lp_01 (y:Int):0≤lp y∧lp y≤1:=by unfold lp;split<;>omega
theorem ahead_succ (y:Int):ahead (y+1)=ahead y+365+lp y:=by
 have:=lp_eq y;unfold ahead leaps;have h:y+1-1=y:=by omega
 rw [h];omega
theorem months {m:Int} (h1:1≤m) (h2:m≤12):m=1∨m=2∨m=3∨m=4∨m=5∨m=6∨m=7∨m=8∨m=9∨m=10∨m=11∨m=12:=by omega
theorem number_eq (y m d:Int) (h1:1≤m) (h2:m≤12):number y m d=days y m d:=by
 have hl:=lp_eq y;unfold days ahead leaps number y0 m0 cum;rcases months h1 h2 with rfl|rfl|rfl|rfl|rfl|rfl|rfl|rfl|rfl|rfl|rfl|rfl<;>simp<;>omega
theorem len_bd (y m:Int) (h1:1≤m) (h2:m≤12):28≤len y m∧len y m≤31:=by
 have:=lp_01 y;unfold len
 split
 ·omega
 split
 ·omega
 split<;>omega
theorem len_out (y m:Int) (h:m<1∨12<m):len y m=0:=by
 unfold len;rw [if_neg (by omega),if_neg (by omega),if_neg (by omega)]
theorem len_le (y m:Int):0≤len y m∧len y m≤31:=by
 by_cases h:m<1∨12<m
 ·rw [len_out y m h];omega
 ·have:=len_bd y m (by omega) (by omega);omega
theorem cum_succ (y m:Int) (h1:1≤m) (h2:m≤12):cum y (m+1)=cum y m+len y m:=by
 unfold cum len;rcases months h1 h2 with rfl|rfl|rfl|rfl|rfl|rfl|rfl|rfl|rfl|rfl|rfl|rfl<;>simp<;>omega
theorem cum_bd (y m:Int) (h1:1≤m) (h2:m≤12):0≤cum y m∧cum y m+len y m≤365+lp y:=by
 have:=lp_01 y;unfold cum len;rcases months h1 h2 with rfl|rfl|rfl|rfl|rfl|rfl|rfl|rfl|rfl|rfl|rfl|rfl<;>simp<;>omega
theorem ahead_bd (y:Int) (h1: -40001≤y) (h2:y≤40002): -15400000≤ahead y∧ahead y≤14000000:=by unfold ahead leaps;omega
theorem ahead_mono {a b:Int} (h:a≤b):ahead a+365*(b-a)≤ahead b:=by unfold ahead leaps;omega
theorem leap_alt (y:Int):leap y=(decide (y%4=0)&&(decide (y%25≠0)||decide (y%16=0))):=by
 unfold leap
 by_cases h4:y%4=0
 ·by_cases h25:y%25=0
  ·have e100:y%100=0:=by omega
   by_cases h16:y%16=0
   ·have:y%400=0:=by omega
    simp [h4,h25,h16,this]
   ·have:¬y%400=0:=by omega
    simp [h4,h25,h16,this,e100]
  ·have e100:¬y%100=0:=by omega
   simp [h4,h25,e100]
 ·simp [h4]
end Cal
end
section
open Go.RowKit NB
namespace Civ
theorem Leap (y:Int) (w:World):Calls prog 190 #[.int .i64 y] w fun e w'=>e=.returned (.bool (Cal.leap y))∧w=w':=by
 have hA:=Pl.and3 y;have hB:=Pl.and15 y;have hC:(y.tmod 25==0)=decide (y%25=0):=by
  by_cases h:y%25=0
  ·simp [h,Pl.tmod_ex y 25 h]
  ·have:y.tmod 25≠0:=by
    intro h';exact h (Int.emod_eq_zero_of_dvd (Int.dvd_of_tmod_eq_zero h'))
   simp [h,this]
 rw [Cal.leap_alt]
 by_cases h4:y%4=0
 ·have t4:(y%4==0)=true:=by simp [h4]
  by_cases h25:y%25=0
  ·have t25:(y.tmod 25==0)=true:=by rw [hC];simp [h25]
   have n25:(y.tmod 25 != 0)=false:=by rw [bne,t25];rfl
   by_cases h16:y%16=0
   ·have t16:(y%16==0)=true:=by simp [h16]
    have hf:(decide (y%4=0)&&(decide (y%25≠0)||decide (y%16=0)))=true:=by simp [h4,h16]
    rw [hf];clear hC h4 h25 h16 hf;go_enter func190,ntmps190;go_wp2;go_ret;exact ⟨rfl,rfl⟩
   ·have t16:(y%16==0)=false:=by simp [h16]
    have hf:(decide (y%4=0)&&(decide (y%25≠0)||decide (y%16=0)))=false:=by simp [h25,h16]
    rw [hf];clear hC h4 h25 h16 hf;go_enter func190,ntmps190;go_wp2;go_ret;exact ⟨rfl,rfl⟩
  ·have t25:(y.tmod 25==0)=false:=by rw [hC];simp [h25]
   have n25:(y.tmod 25 != 0)=true:=by rw [bne,t25];rfl
   have hf:(decide (y%4=0)&&(decide (y%25≠0)||decide (y%16=0)))=true:=by simp [h4,h25]
   rw [hf];clear hC h4 h25 hf;go_enter func190,ntmps190;go_wp2;go_ret;exact ⟨rfl,rfl⟩
 ·have t4:(y%4==0)=false:=by simp [h4]
  have hf:(decide (y%4=0)&&(decide (y%25≠0)||decide (y%16=0)))=false:=by simp [h4]
  rw [hf];clear hC h4 hf;go_enter func190,ntmps190;go_wp2;go_ret;exact ⟨rfl,rfl⟩
set_option maxHeartbeats 800000 in
theorem Len (y m:Int) (w:World):Calls prog 131 #[.int .i64 y,.int .i64 m] w fun e w'=>e=.returned (.int .i64 (Cal.len y m))∧w=w':=by
 by_cases h:m<1∨12<m
 ·rw [Cal.len_out y m h];have e1:(m==1)=false:=by simp;omega
  have e2:(m==2)=false:=by simp;omega
  have e3:(m==3)=false:=by simp;omega
  have e4:(m==4)=false:=by simp;omega
  have e5:(m==5)=false:=by simp;omega
  have e6:(m==6)=false:=by simp;omega
  have e7:(m==7)=false:=by simp;omega
  have e8:(m==8)=false:=by simp;omega
  have e9:(m==9)=false:=by simp;omega
  have e10:(m==10)=false:=by simp;omega
  have e11:(m==11)=false:=by simp;omega
  have e12:(m==12)=false:=by simp;omega
  clear h;go_enter func131,ntmps131;go_wp2;go_ret;exact ⟨rfl,rfl⟩
 ·by_cases h2:m=2
  ·subst h2;clear h;cases hl:Cal.leap y
   all_goals
    have e:Cal.len y 2=if Cal.leap y then 29 else 28:=by
     unfold Cal.len Cal.lp;rw [if_neg (by decide),if_neg (by decide),if_pos rfl]
     split<;>rfl
    rw [e,hl];clear e;have Hl:=kj hl;clear hl;go_enter func131,ntmps131
    go_wp2_with (go_at_call 190;refine (Leap y _).mono ?_;rw [Hl.out];rintro e w' ⟨rfl,rfl⟩)
    go_ret;exact ⟨rfl,rfl⟩
  ·rcases Cal.months (m:=m) (by omega) (by omega) with rfl|rfl|rfl|rfl|rfl|rfl|rfl|rfl|rfl|rfl|rfl|rfl
   all_goals
    clear h
    first
     |(exfalso;exact h2 rfl)
     |(clear h2
       go_enter func131,ntmps131;go_wp2;go_ret;exact ⟨rfl,rfl⟩)
def right (y m d:Int):Bool:=decide (-40000≤y)&&decide (y≤40000)&&decide (1≤d)&&decide (d≤Cal.len y m)
set_option maxHeartbeats 800000 in
theorem Right (y m d:Int) (w:World):Calls prog 75 #[.agg #[.int .i64 y,.int .i64 m,.int .i64 d]] w fun e w'=>e=.returned (.bool (right y m d))∧Below w.heap.size w w':=by
 unfold right
 by_cases h1: -40000≤y
 case neg=>
  have d1:decide (-40000≤y)=false:=by simpa using h1
  rw [d1];go_enter func75,ntmps75;go_wp2
  go_quiet (fail)
  go_wp2;go_ret;exact ⟨rfl,below_drewN ((Below.refl _ _).alloc (Nat.le_refl _) _) _⟩
 case pos=>
  by_cases h2:y≤40000
  case neg=>
   have d1:decide (y≤40000)=false:=by simpa using h2
   rw [d1];go_enter func75,ntmps75;go_wp2
   go_quiet (fail)
   go_wp2;go_ret;exact ⟨by simp,below_drewN ((Below.refl _ _).alloc (Nat.le_refl _) _) _⟩
  case pos=>
   by_cases h3:1≤d
   case neg=>
    have d1:decide (1≤d)=false:=by simpa using h3
    rw [d1];go_enter func75,ntmps75;go_wp2
    go_quiet (fail)
    go_wp2;go_ret;exact ⟨by simp,below_drewN ((Below.refl _ _).alloc (Nat.le_refl _) _) _⟩
   case pos=>
    have hf:(decide (-40000≤y)&&decide (y≤40000)&&decide (1≤d)&&decide (d≤Cal.len y m))=decide (d≤Cal.len y m):=by simp [h1,h2,h3]
    rw [hf];clear hf;go_enter func75,ntmps75;go_wp2
    go_quiet ((go_at_call 131;exact quiet_left (Len _ _ _)))
    go_wp2;go_ret;exact ⟨rfl,below_drewN ((Below.refl _ _).alloc (Nat.le_refl _) _) _⟩
theorem march (m:Int) (h0:0≤m) (h1:m≤100) (w:World):Calls prog 133 #[.int .i64 m] w fun e w'=>e=.returned (.int .i64 ((153*m+2)/5))∧w=w':=by
 go_enter func133,ntmps133;go_wp2;go_ret;exact ⟨rfl,rfl⟩
end Civ
end
section
open Go.RowKit NB
namespace Civ
set_option maxHeartbeats 800000 in
theorem number (y m d:Int) (h1: -50000≤y) (h2:y≤50000) (h3:1≤m) (h4:m≤12) (h5:0≤d) (h6:d≤100) (w:World):
 Calls prog 76 #[.agg #[.int .i64 y,.int .i64 m,.int .i64 d]] w fun e w'=>e=.returned (.int .i64 (Cal.number y m d))∧Below w.heap.size w w':=by
 by_cases hm:m<3
 ·have q1: -200≤(y-1)/400:=by omega
  have q2:(y-1)/400≤200:=by omega
  have q3:0≤(y-1)%400:=by omega
  have q4:(y-1)%400≤399:=by omega
  have hf:Cal.number y m d=(y-1)/400*146097+(y-1)%400*365+(y-1)%400/4-(y-1)%400/100+((153*(m-3+12)+2)/5+d-1)-719468:=by
   unfold Cal.number Cal.y0 Cal.m0;rw [if_pos hm,if_pos hm,show m+9=m-3+12 by omega]
  rw [hf];clear hf;go_enter func76,ntmps76;go_wp2
  go_quiet (fail)
  go_wp2_with (go_at_call 132;refine (Num.Div _ _ (by omega) (by omega) (by omega) (by omega) _).mono ?_;rintro e w1 ⟨rfl,hb⟩;obtain ⟨hc,hfz⟩:=bcell hb)
  go_quiet ((go_at_call 133;exact quiet_left (march _ (by omega) (by omega) _)))
  go_wp2;go_ret;exact ⟨rfl,below_drewN ((below_drewN ((Below.refl _ _).alloc (Nat.le_refl _) _) _).trans (hb.mono (by simp))) _⟩
 ·have q1: -200≤y/400:=by omega
  have q2:y/400≤200:=by omega
  have q3:0≤y%400:=by omega
  have q4:y%400≤399:=by omega
  have hf:Cal.number y m d=y/400*146097+y%400*365+y%400/4-y%400/100+((153*(m-3)+2)/5+d-1)-719468:=by
   unfold Cal.number Cal.y0 Cal.m0;rw [if_neg hm,if_neg hm]
  rw [hf];clear hf;go_enter func76,ntmps76;go_wp2
  go_quiet (fail)
  go_wp2_with (go_at_call 132;refine (Num.Div _ _ (by omega) (by omega) (by omega) (by omega) _).mono ?_;rintro e w1 ⟨rfl,hb⟩;obtain ⟨hc,hfz⟩:=bcell hb)
  go_quiet ((go_at_call 133;exact quiet_left (march _ (by omega) (by omega) _)))
  go_wp2;go_ret;exact ⟨rfl,below_drewN ((below_drewN ((Below.refl _ _).alloc (Nat.le_refl _) _) _).trans (hb.mono (by simp))) _⟩
theorem right_spec {y m d:Int} (h:right y m d=true): -40000≤y∧y≤40000∧1≤m∧m≤12∧1≤d∧d≤Cal.len y m:=by
 unfold right at h;simp only [Bool.and_eq_true,decide_eq_true_eq] at h;obtain ⟨⟨⟨a,b⟩,c⟩,d⟩:=h;refine ⟨a,b,?_,?_,c,d⟩
 ·by_cases hm:m<1
  ·rw [Cal.len_out _ _ (.inl hm)] at d;omega
  ·omega
 ·by_cases hm:12<m
  ·rw [Cal.len_out _ _ (.inr hm)] at d;omega
  ·omega
set_option maxHeartbeats 800000 in
theorem Days (y m d:Int) (w:World):
 Calls prog 30 #[.agg #[.int .i64 y,.int .i64 m,.int .i64 d]] w fun e w'=>e=.returned (if right y m d then .tuple #[.int .i64 (Cal.days y m d),.int .i64 0] else .tuple #[.int .i64 0,.int .i64 1])∧Below w.heap.size w w':=by
 cases hr:right y m d
 ·have Hr:=kj hr;clear hr;go_enter func30,ntmps30
  go_wp2_with (go_at_call 75;refine (Right _ _ _ _).mono ?_;rw [Hr.out];rintro e w1 ⟨rfl,hb⟩)
  go_ret2;exact ⟨rfl,((Below.refl _ _).alloc (Nat.le_refl _) _).trans (hb.mono (by simp))⟩
 ·obtain ⟨a1,a2,a3,a4,a5,a6⟩:=right_spec hr;have hl:=Cal.len_le y m;have Hr:=kj hr;clear hr;have hd:d≤31:=by omega
  clear a6 hl;have e1:=kj (Cal.number_eq y m d a3 a4);go_enter func30,ntmps30
  go_wp2_with (first|(go_at_call 75;refine (Right _ _ _ _).mono ?_;rw [Hr.out];rintro e w1 ⟨rfl,hb⟩;obtain ⟨hc,hfz⟩:=bcell hb)|(go_at_call 76;refine (number _ _ _ (by omega) (by omega) (by omega) (by omega) (by omega) (by omega) _).mono ?_;rintro e w2 ⟨rfl,hb2⟩))
  go_ret2;exact ⟨by rw [← e1.out];rfl,(((Below.refl _ _).alloc (Nat.le_refl _) _).trans (hb.mono (by simp))).trans (hb2.mono (by have:=hb.size;simp at this;omega))⟩
theorem Weekday (n:Int) (h0: -9000000000000000000≤n) (h1:n≤9000000000000000000) (w:World):
 Calls prog 315 #[.int .i64 n] w fun e w'=>e=.returned (.int .i64 ((n+4)%7))∧Below w.heap.size w w':=by
 have q3:0≤n%7:=by omega
 have q4:n%7≤6:=by omega
 have hf:(n+4)%7=(n%7+4)%7:=by omega
 rw [hf];clear hf;go_enter func315,ntmps315
 go_wp2_with (go_at_call 132;refine (Num.Div _ _ (by omega) (by omega) (by omega) (by omega) _).mono ?_;rintro e w1 ⟨rfl,hb⟩)
 go_ret;exact ⟨rfl,hb⟩
end Civ
end
section
open Go.RowKit NB
namespace Day
def onRight (k wk d:Int):Bool:=if k=1 then decide (0≤wk∧wk≤6∧d=0) else decide (0≤k∧k≤3∧0≤wk∧wk≤(if k=0 then 0 else 6)∧1≤d∧d≤31)
theorem onRight_iff (k wk d:Int):onRight k wk d=true↔(k=1∧0≤wk∧wk≤6∧d=0)∨(k=0∧wk=0∧1≤d∧d≤31)∨((k=2∨k=3)∧0≤wk∧wk≤6∧1≤d∧d≤31):=by
 unfold onRight
 by_cases h1:k=1
 ·simp [h1]
 ·by_cases h0:k=0
  ·simp [h0];omega
  ·simp [h1,h0];omega
theorem within (n lo hi:Int) (w:World):Calls prog 273 #[.int .i64 n,.int .i64 lo,.int .i64 hi] w fun e w'=>e=.returned (.bool (decide (lo≤n)&&decide (n≤hi)))∧w=w':=by
 go_enter func273,ntmps273;go_wp2
 all_goals
  go_ret;refine ⟨ret_bool ?_,rfl⟩;simp [*]
  try omega
set_option maxHeartbeats 800000 in
theorem Right (k wk d:Int) (w:World):Calls prog 272 #[.agg #[.int .i64 k,.int .i64 wk,.int .i64 d]] w fun e w'=>e=.returned (.bool (onRight k wk d))∧Below w.heap.size w w':=by
 go_enter func272,ntmps272;go_wp2
 all_goals
  go_ret;refine ⟨ret_bool ?_,(Below.refl _ _).alloc (Nat.le_refl _) _⟩;rw [Bool.eq_iff_iff,onRight_iff];simp only [beq_iff_eq,beq_eq_false_iff_ne,ne_eq,decide_eq_true_eq,Bool.false_eq_true,false_iff] at *;omega
def fits (k wk d m:Int):Bool:=onRight k wk d&&(decide (1≤m)&&decide (m≤12))&&decide (d≤Cal.len 1 m)
theorem fits_spec {k wk d m:Int} (h:fits k wk d m=true):1≤m∧m≤12∧d≤Cal.len 1 m∧((k=1∧0≤wk∧wk≤6∧d=0)∨(k=0∧wk=0∧1≤d∧d≤31)∨((k=2∨k=3)∧0≤wk∧wk≤6∧1≤d∧d≤31)):=by
 unfold fits at h;simp only [Bool.and_eq_true,decide_eq_true_eq] at h;exact ⟨h.1.2.1,h.1.2.2,h.2,(onRight_iff _ _ _).1 h.1.1⟩
set_option maxHeartbeats 800000 in
theorem Fits (k wk d m:Int) (w:World):Calls prog 217 #[.agg #[.int .i64 k,.int .i64 wk,.int .i64 d],.int .i64 m] w fun e w'=>e=.returned (.bool (fits k wk d m))∧Below w.heap.size w w':=by
 unfold fits;cases h1:onRight k wk d
 case false=>
  have H1:=kj h1;clear h1;go_enter func217,ntmps217;go_wp2;refine region_later (by kernel_rfl) (by kernel_rfl) ?_
  repeat (go_big_quiet_step ((go_at_call 272;rename_i xL;apply calls_later xL (Nat.le_refl _);refine (Right _ _ _ _).mono ?_;rw [H1.out];exact fun _ _ h=>h)))
  refine wpQuiet_nil ?_;rintro _ ⟨⟨u,hu⟩,rfl⟩;go_wp2;go_ret;exact ⟨rfl,((Below.refl _ _).alloc (Nat.le_refl _) _).trans (hu.mono (by simp))⟩
 case true=>
  have H1:=kj h1;clear h1;cases h2:(decide (1≤m)&&decide (m≤12))
  case false=>
   have H2:=kj h2;clear h2;go_enter func217,ntmps217;go_wp2;refine region_later (by kernel_rfl) (by kernel_rfl) ?_
   repeat (go_big_quiet_step (first|(go_at_call 272;rename_i xL;apply calls_later xL (Nat.le_refl _);refine (Right _ _ _ _).mono ?_;rw [H1.out];exact fun _ _ h=>h)|(go_at_call 273;rename_i xL;apply calls_later xL (Nat.le_refl _);apply below_of_same;refine (within _ _ _ _).mono ?_;rw [H2.out];exact fun _ _ h=>h)))
   refine wpQuiet_nil ?_;rintro _ ⟨⟨u,hu⟩,rfl⟩;go_wp2;go_ret;exact ⟨rfl,((Below.refl _ _).alloc (Nat.le_refl _) _).trans (hu.mono (by simp))⟩
  case true=>
   have H2:=kj h2;clear h2;go_enter func217,ntmps217;go_wp2;refine region_later (by kernel_rfl) (by kernel_rfl) ?_
   repeat (go_big_quiet_step (first|(go_at_call 272;rename_i xL;apply calls_later xL (Nat.le_refl _);refine (Right _ _ _ _).mono ?_;rw [H1.out];exact fun _ _ h=>h)|(go_at_call 273;rename_i xL;apply calls_later xL (Nat.le_refl _);apply below_of_same;refine (within _ _ _ _).mono ?_;rw [H2.out];exact fun _ _ h=>h)|(go_at_call 131;rename_i xL;exact calls_later xL (Nat.le_refl _) (below_of_same (Civ.Len _ _ _)))))
   refine wpQuiet_nil ?_;rintro _ ⟨⟨u,hu⟩,rfl⟩;go_wp2;go_ret;exact ⟨rfl,((Below.refl _ _).alloc (Nat.le_refl _) _).trans (hu.mono (by simp))⟩
def backI (n wk:Int):Int:=((n+4)%7-wk+7)%7
theorem back (n wk:Int) (h0: -9000000000000000000≤n) (h1:n≤9000000000000000000) (h2:0≤wk) (h3:wk≤6) (w:World):
 Calls prog 297 #[.int .i64 n,.int .i64 wk] w fun e w'=>e=.returned (.int .i64 (backI n wk))∧Below w.heap.size w w':=by
 unfold backI;have q3:0≤(n+4)%7:=by omega
 have q4:(n+4)%7≤6:=by omega
 go_enter func297,ntmps297
 go_wp2_with (go_at_call 315;refine (Civ.Weekday _ (by omega) (by omega) _).mono ?_;rintro e w1 ⟨rfl,hb⟩)
 go_ret;exact ⟨rfl,hb⟩
end Day
end
section
open Go.RowKit NB
namespace Day
def winLow (k d m:Int):Int:=if k=1 then Cal.len 1 m-6 else if k=3 then d-6 else d
def winHigh (k d m:Int):Int:=if k=1 then Cal.len 4 m else if k=2 then d+6 else d
theorem kinds {k wk d m:Int} (h:fits k wk d m=true):k=1∨k=0∨k=2∨k=3:=by
 obtain ⟨_,_,_,h⟩:=fits_spec h;omega
theorem days31 {k wk d m:Int} (h:fits k wk d m=true):0≤d∧d≤31∧0≤wk∧wk≤6:=by
 obtain ⟨_,_,_,h⟩:=fits_spec h;omega
def dayI (k wk d y m:Int):Int:=
 if k=1 then (Cal.days y m 1+Cal.len y m-1)-backI (Cal.days y m 1+Cal.len y m-1) wk
 else if k=2 then (Cal.days y m 1+d-1)+(6-backI (Cal.days y m 1+d-1+6) wk)
 else if k=3 then (Cal.days y m 1+d-1)-backI (Cal.days y m 1+d-1) wk
 else Cal.days y m 1+d-1
theorem backI_bd (n wk:Int):0≤backI n wk∧backI n wk≤6:=by unfold backI;omega
theorem right_first {y m:Int} (h1: -40000≤y) (h2:y≤40000) (h3:1≤m) (h4:m≤12):Civ.right y m 1=true:=by
 have:=Cal.len_bd y m h3 h4;unfold Civ.right;simp only [Bool.and_eq_true,decide_eq_true_eq];omega
theorem first_bd {y m:Int} (h1: -40000≤y) (h2:y≤40000) (h3:1≤m) (h4:m≤12): -16000000≤Cal.days y m 1∧Cal.days y m 1≤16000000:=by
 have:=Cal.ahead_bd y (by omega) (by omega);have:=Cal.cum_bd y m h3 h4;have:=Cal.len_bd y m h3 h4;have:=Cal.lp_01 y;unfold Cal.days;omega
theorem back' (n wk:Int) (h0: -9000000000000000000≤n) (h1:n≤9000000000000000000) (h2:0≤wk) (h3:wk≤6) (w:World):
 Calls prog 297 #[.int .i64 n,.int .i64 wk] w fun e w'=>∃ r,e=.returned (.int .i64 r)∧r=backI n wk∧0≤r∧r≤6∧Below w.heap.size w w':=
 (back n wk h0 h1 h2 h3 w).mono fun _ _ ⟨he,hb⟩=>⟨_,he,rfl,(backI_bd n wk).1,(backI_bd n wk).2,hb⟩
set_option maxHeartbeats 1600000 in
theorem Days (k wk d y m:Int) (w:World):Calls prog 266 #[.agg #[.int .i64 k,.int .i64 wk,.int .i64 d],.int .i64 y,.int .i64 m] w fun e w'=>
 e=.returned (if fits k wk d m then (if -39999≤y∧y≤39999 then .tuple #[.int .i64 (dayI k wk d y m),.int .i64 0] else .tuple #[.int .i64 0,.int .i64 1]) else .tuple #[.int .i64 0,.int .i64 4])∧Below w.heap.size w w':=by
 cases h1:fits k wk d m
 case false=>
  have H1:=kj h1;clear h1;go_enter func266,ntmps266
  go_wp2_with (go_at_call 217;refine (Fits _ _ _ _ _).mono ?_;rw [H1.out];rintro e w1 ⟨rfl,hb⟩)
  go_ret2;exact ⟨rfl,((Below.refl _ _).alloc (Nat.le_refl _) _).trans (hb.mono (by simp))⟩
 case true=>
  by_cases hy: -39999≤y∧y≤39999
  case neg=>
   have H1:=kj h1;clear h1;have hw:(decide (-39999≤y)&&decide (y≤39999))=false:=by
    rw [Bool.eq_false_iff];intro h;simp only [Bool.and_eq_true,decide_eq_true_eq] at h;exact hy h
   have HW:=kj hw;clear hw;rw [if_pos rfl,if_neg hy];clear hy;go_enter func266,ntmps266
   go_wp2_with (first|(go_at_call 217;refine (Fits _ _ _ _ _).mono ?_;rw [H1.out];rintro e w1 ⟨rfl,hb⟩;obtain ⟨hc,hfz⟩:=bcell hb)|(go_at_call 273;refine (within _ _ _ _).mono ?_;rw [HW.out];rintro e w2 ⟨rfl,rfl⟩))
   go_ret2;exact ⟨rfl,((Below.refl _ _).alloc (Nat.le_refl _) _).trans (hb.mono (by simp))⟩
  case pos=>
   rw [if_pos rfl,if_pos hy];have hk:=kinds h1;obtain ⟨d0,d1,w0,w1⟩:=days31 h1;obtain ⟨m0,m1,_,_⟩:=fits_spec h1;obtain ⟨y0,y1⟩:=hy;have H1:=kj h1;clear h1;have hw:(decide (-39999≤y)&&decide (y≤39999))=true:=by
    simp only [Bool.and_eq_true,decide_eq_true_eq];exact ⟨y0,y1⟩
   have HW:=kj hw;clear hw;have HR:=kj (right_first (y:=y) (m:=m) (by omega) (by omega) m0 m1);have fb:=first_bd (y:=y) (m:=m) (by omega) (by omega) m0 m1;have l1:=Cal.len_le y m;unfold dayI;generalize hF:Cal.days y m 1=F at *;have HF:=kj hF;clear hF;rcases hk with rfl|rfl|rfl|rfl
   all_goals
    simp only [Int.reduceEq,if_true,if_false];go_enter func266,ntmps266
    go_wp2_with (first|(go_at_call 217;refine (Fits _ _ _ _ _).mono ?_;rw [H1.out];rintro e w1 ⟨rfl,hb⟩;obtain ⟨hc,hfz⟩:=bcell hb;have hz:w.heap.size<w1.heap.size:=by (have:=hb.size;simp at this;omega))|(go_at_call 273;refine (within _ _ _ _).mono ?_;rw [HW.out];rintro e w2 ⟨rfl,rfl⟩)|(go_at_call 30;refine (Civ.Days _ _ _ _).mono ?_;rw [HR.out,if_pos rfl,HF.out];rintro e w3 ⟨rfl,hb3⟩;obtain ⟨hc3,hfz3⟩:=bcell hb3;have hz3:=hb3.size)|(go_at_call 131;refine (Civ.Len _ _ _).mono ?_;rintro e w5 ⟨rfl,rfl⟩)|(go_at_call 297;refine (back' _ _ (by omega) (by omega) (by omega) (by omega) _).mono ?_;rintro e w4 ⟨r,rfl,hr,r0,r1,hb4⟩;have HR4:=kj hr;clear hr))
    go_ret2
    first
     |(refine ⟨ret_ii ?_ rfl,((((Below.refl _ _).alloc (Nat.le_refl _) _).trans (hb.mono (by simp))).trans (hb3.mono (by omega))).trans (hb4.mono (by omega))⟩
       first|(rw [HR4.out];done)|(rw [HR4.out];omega)|(rw [HR4.out,show F+d-1+6=F+d-1+7-1 by omega]))
     |exact ⟨ret_ii (by omega) rfl,(((Below.refl _ _).alloc (Nat.le_refl _) _).trans (hb.mono (by simp))).trans (hb3.mono (by omega))⟩
end Day
end
section
open Go.RowKit NB
structure RuleV where
 name:ByteArray
 fr:Int
 «to» :Int
 month:Int
 kind:Int
 week:Int
 day:Int
 sec:Int
 base:Int
 save:Int
 letter:ByteArray
deriving DecidableEq
def RuleV.cells (r:RuleV):List Value:=[.string r.name,.int .i64 r.fr,.int .i64 r.to,.int .i64 r.month,.int .i64 r.kind,.int .i64 r.week,.int .i64 r.day,.int .i64 r.sec,.int .i64 r.base,.int .i64 r.save,.string r.letter]
def I64 (n:Int):Prop:= -9223372036854775808≤n∧n≤9223372036854775807
structure RuleV.Fit (r:RuleV):Prop where
 n:r.name.size≤9223372036854775807
 l:r.letter.size≤9223372036854775807
 fr:I64 r.fr
 «to» :I64 r.to
 sec:I64 r.sec
 save:I64 r.save
namespace Rul
def may (y:Int):Bool:=decide (-32767≤y)&&decide (y≤32767)
theorem mayC (y:Int) (w:World):Calls prog 277 #[.int .i64 y] w fun e w'=>e=.returned (.bool (may y))∧w=w':=by
 unfold may;go_enter func277,ntmps277;go_wp2
 all_goals
  go_ret;refine ⟨ret_bool ?_,rfl⟩;simp [*]
  try omega
def StrErr (err:Int) (w:World) (e:Ending) (w':World):Prop:=∃ s:ByteArray,e=.returned (.tuple #[.string s,.int .i64 err])∧Below w.heap.size w w'
def frErr (y:Int):Int:=if may y then 0 else 1
def toErr (fr y:Int):Int:=if may y then (if y<fr then 14 else 0) else 1
theorem FromText (y:Int) (hy:I64 y) (w:World):Calls prog 225 #[.int .i64 y] w (StrErr (frErr y) w):=by
 obtain ⟨y0,y1⟩:=hy;unfold frErr;cases hm:may y
 ·have Hm:=kj hm;clear hm;rw [if_neg (by decide)];go_enter func225,ntmps225
  go_wp2_with (go_at_call 277;refine (mayC _ _).mono ?_;rw [Hm.out];rintro e w' ⟨rfl,rfl⟩)
  go_ret2;exact ⟨_,rfl,Below.refl _ _⟩
 ·have Hm:=kj hm;clear hm;rw [if_pos rfl];go_enter func225,ntmps225
  go_wp2_with (first|(go_at_call 277;refine (mayC _ _).mono ?_;rw [Hm.out];rintro e w' ⟨rfl,rfl⟩)|(go_at_call 278;refine (Txt.Text _ (by omega) (by omega) _).mono ?_;rintro e w2 ⟨r,rfl,hb⟩))
  ·go_ret2;exact ⟨_,rfl,Below.refl _ _⟩
  ·go_ret2;exact ⟨_,rfl,hb⟩
theorem ToText (fr y:Int) (hy:I64 y) (w:World):Calls prog 224 #[.int .i64 fr,.int .i64 y] w (StrErr (toErr fr y) w):=by
 obtain ⟨y0,y1⟩:=hy;unfold toErr;cases hm:may y
 ·have Hm:=kj hm;clear hm;rw [if_neg (by decide)];go_enter func224,ntmps224
  go_wp2_with (go_at_call 277;refine (mayC _ _).mono ?_;rw [Hm.out];rintro e w' ⟨rfl,rfl⟩)
  go_ret2;exact ⟨_,rfl,Below.refl _ _⟩
 ·have Hm:=kj hm;clear hm;rw [if_pos rfl]
  by_cases hlt:y<fr
  ·rw [if_pos hlt];go_enter func224,ntmps224
   go_wp2_with (go_at_call 277;refine (mayC _ _).mono ?_;rw [Hm.out];rintro e w' ⟨rfl,rfl⟩)
   go_ret2;exact ⟨_,rfl,Below.refl _ _⟩
  ·rw [if_neg hlt];go_enter func224,ntmps224
   go_wp2_with (first|(go_at_call 277;refine (mayC _ _).mono ?_;rw [Hm.out];rintro e w' ⟨rfl,rfl⟩)|(go_at_call 278;refine (Txt.Text _ (by omega) (by omega) _).mono ?_;rintro e w2 ⟨r,rfl,hb⟩))
   all_goals
    go_ret2
    first
     |exact ⟨_,rfl,hb⟩
     |exact ⟨_,rfl,Below.refl _ _⟩
def clockRight (sec base:Int):Bool:=decide (0≤base∧base≤2∧0≤sec∧sec≤172800)
theorem ClockRight (sec base:Int) (w:World):Calls prog 218 #[.agg #[.int .i64 sec,.int .i64 base]] w fun e w'=>e=.returned (.bool (clockRight sec base))∧Below w.heap.size w w':=by
 go_enter func218,ntmps218;go_wp2
 all_goals
  go_ret;refine ⟨ret_bool ?_,(Below.refl _ _).alloc (Nat.le_refl _) _⟩;unfold clockRight;rw [Bool.eq_iff_iff];simp only [beq_iff_eq,beq_eq_false_iff_ne,ne_eq,decide_eq_true_eq,Bool.false_eq_true,false_iff] at *;omega
def saves (n:Int):Bool:=decide (-10800≤n)&&decide (n≤10800)
theorem Saves (n:Int) (w:World):Calls prog 227 #[.int .i64 n] w fun e w'=>e=.returned (.bool (saves n))∧w=w':=by
 unfold saves;go_enter func227,ntmps227;go_wp2
 all_goals
  go_ret;refine ⟨ret_bool ?_,rfl⟩;simp [*]
  try omega
def letErr (s:ByteArray):Int:=if Fmt.letterOK s then 0 else 4
theorem LetterText' (s:ByteArray) (hs:s.size≤9223372036854775807) (w:World):Calls prog 226 #[.string s] w fun e w'=>e=.returned (.tuple #[.string (Fmt.ltext s),.int .i64 (letErr s)])∧Below w.heap.size w w':=Fmt.LetterText s hs w
def right (r:RuleV):Bool:=((toErr r.fr r.to==0)&&(frErr r.fr==0)&&(letErr r.letter==0))&&(Nam.nameE r.name==0)&&Day.fits r.kind r.week r.day r.month&&clockRight r.sec r.base&&saves r.save
set_option maxHeartbeats 3200000 in
theorem Right (r:RuleV) (hr:r.Fit) (w:World):Calls prog 162 #[.agg r.cells.toArray] w fun e w'=>e=.returned (.bool (right r))∧Below w.heap.size w w':=by
 obtain ⟨hn,hl,hfr,hto,hsec,hsave⟩:=hr;have Hfr:=kj hfr;have Hto:=kj hto;clear hfr hto hsec hsave;unfold RuleV.cells;go_enter func162,ntmps162
 go_wp2_with (first
  |(go_at_call 224;refine (ToText _ _ Hto.out _).mono ?_;rintro e w1 ⟨s1,rfl,hb1⟩;obtain ⟨hc1,hf1⟩:=bcell hb1;have hz1:w.heap.size<w1.heap.size:=by (have:=hb1.size;simp at this;omega))
  |(go_at_call 225;refine (FromText _ Hfr.out _).mono ?_;rintro e w2 ⟨s2,rfl,hb2⟩;obtain ⟨hc2,hf2⟩:=bcell hb2;have hz2:w.heap.size<w2.heap.size:=by (have:=hb2.size;omega))
  |(go_at_call 226;refine (LetterText' _ hl _).mono ?_;rintro e w3 ⟨rfl,hb3⟩;obtain ⟨hc3,hf3⟩:=bcell hb3;have hz3:w.heap.size<w3.heap.size:=by (have:=hb3.size;omega))
  |(go_at_call 157;refine (Nam.Name _ hn _).mono ?_;rintro e w4 ⟨rfl,hb4⟩;obtain ⟨hc4,hf4⟩:=bcell hb4;have hz4:w.heap.size<w4.heap.size:=by (have:=hb4.size;omega))
  |(go_at_call 217;refine (Day.Fits _ _ _ _ _).mono ?_;rintro e w5 ⟨rfl,hb5⟩;obtain ⟨hc5,hf5⟩:=bcell hb5;have hz5:w.heap.size<w5.heap.size:=by (have:=hb5.size;omega))
  |(go_at_call 218;refine (ClockRight _ _ _).mono ?_;rintro e w6 ⟨rfl,hb6⟩;obtain ⟨hc6,hf6⟩:=bcell hb6;have hz6:w.heap.size<w6.heap.size:=by (have:=hb6.size;omega))
  |(go_at_call 227;refine (Saves _ _).mono ?_;rintro e w7 ⟨rfl,rfl⟩))
 all_goals
  go_ret;refine ⟨ret_bool ?_,?_⟩
  ·simp [right, *]
  ·first
    |exact ((((((((Below.refl _ _).alloc (Nat.le_refl _) _).trans (hb1.mono (by simp))).trans (hb2.mono (by omega))).trans (hb3.mono (by omega))).trans (hb4.mono (by omega))).trans (hb5.mono (by omega))).trans (hb6.mono (by omega)))
    |exact (((((((Below.refl _ _).alloc (Nat.le_refl _) _).trans (hb1.mono (by simp))).trans (hb2.mono (by omega))).trans (hb3.mono (by omega))).trans (hb4.mono (by omega))).trans (hb5.mono (by omega)))
    |exact ((((((Below.refl _ _).alloc (Nat.le_refl _) _).trans (hb1.mono (by simp))).trans (hb2.mono (by omega))).trans (hb3.mono (by omega))).trans (hb4.mono (by omega)))
    |exact (((((Below.refl _ _).alloc (Nat.le_refl _) _).trans (hb1.mono (by simp))).trans (hb2.mono (by omega))).trans (hb3.mono (by omega)))
end Rul
end
section
open Go.RowKit NB
namespace Rul
theorem right_spec {r:RuleV} (h:right r=true):(-32767≤r.fr∧r.fr≤r.to∧r.to≤32767)∧Day.fits r.kind r.week r.day r.month=true∧(0≤r.base∧r.base≤2∧0≤r.sec∧r.sec≤172800)∧(-10800≤r.save∧r.save≤10800):=by
 unfold right at h;simp only [Bool.and_eq_true,beq_iff_eq] at h;obtain ⟨⟨⟨⟨⟨⟨h1,h2⟩,_⟩,_⟩,h5⟩,h6⟩,h7⟩:=h;have hc:=of_decide_eq_true h6;unfold saves at h7;simp only [Bool.and_eq_true,decide_eq_true_eq] at h7;unfold toErr may at h1;unfold frErr may at h2;refine ⟨?_,h5,hc,h7⟩
 by_cases a:(decide (-32767≤r.to)&&decide (r.to≤32767))=true
 ·rw [if_pos a] at h1
  by_cases b:(decide (-32767≤r.fr)&&decide (r.fr≤32767))=true
  ·simp only [Bool.and_eq_true,decide_eq_true_eq] at a b
   by_cases c:r.to<r.fr
   ·rw [if_pos c] at h1;cases h1
   ·omega
  ·rw [if_neg b] at h2;cases h2
 ·rw [if_neg a] at h1;cases h1
end Rul
end
section
open Go.Shelf
def Tryz.lays145_ren:Go.Shelf.Ren:=⟨fun|145=>270|220=>298|219=>316|217=>274|225=>333|224=>334|267=>335|266=>300|314=>344|n=>n,fun|9=>9|4=>4|59=>288|3=>3|5=>5|46=>206|146=>339|51=>338|n=>n,fun|1=>1|n=>n⟩
theorem Tryz.lays145:Go.Proofs.Lays.n145 prog Tryz.lays145_ren:={
 mixed:=by kernel_rfl,
 f145:=func270.trans (congrArg some (by kernel_rfl)),
 f217:=func274.trans (congrArg some (by kernel_rfl)),
 f219:=func316.trans (congrArg some (by kernel_rfl)),
 f220:=func298.trans (congrArg some (by kernel_rfl)),
 f224:=func334.trans (congrArg some (by kernel_rfl)),
 f225:=func333.trans (congrArg some (by kernel_rfl)),
 f266:=func300.trans (congrArg some (by kernel_rfl)),
 f267:=func335.trans (congrArg some (by kernel_rfl)),
 f314:=func344.trans (congrArg some (by kernel_rfl)),
 t3:=underlying3,
 a3:=isAgg3,
 z3:=sizeOf3,
 v3:=zeroValue3,
 t4:=underlying4,
 a4:=isAgg4,
 z4:=sizeOf4,
 v4:=zeroValue4,
 t5:=underlying5,
 a5:=isAgg5,
 z5:=sizeOf5,
 v5:=zeroValue5,
 t9:=underlying9,
 a9:=isAgg9,
 z9:=sizeOf9,
 v9:=zeroValue9,
 t46:=underlying206,
 a46:=isAgg206,
 z46:=sizeOf206,
 v46:=zeroValue206,
 t51:=underlying338,
 a51:=isAgg338,
 z51:=sizeOf338,
 v51:=zeroValue338,
 t59:=underlying288,
 a59:=isAgg288,
 z59:=sizeOf288,
 v59:=zeroValue288,
 t146:=underlying339,
 a146:=isAgg339,
 z146:=sizeOf339,
 v146:=zeroValue339,
 g1:=by kernel_rfl}
open Go.RowKit NB
def Tab (w:World):Prop:=∃ m,w.cell? ⟨1,0,none⟩=some (.int .i64 m)
theorem Tab.lt {w:World} (h:Tab w):1<w.heap.size:=by
 obtain ⟨m,hm⟩:=h;unfold World.cell? at hm;cases hh:w.heap[1]? with
 |none=>simp only [hh] at hm;cases hm
 |some o=>exact (Array.getElem?_eq_some_iff.1 hh).1
theorem Tab.later {w w':World} (h:Tab w) (hb:Below w.heap.size w w'):Tab w':=by
 have hl:=h.lt;obtain ⟨m,hm⟩:=h;exact ⟨m,(hb.cell (p:=⟨1,0,none⟩) hl).trans hm⟩
namespace Lb
theorem Cut (s sep:ByteArray) (w:World) (hs:s.size<4294967281) (hm:Tab w):
 Calls prog 270 #[.string s,.string sep] w fun e w'=>e=.returned (.tuple #[.string ⟨(Go.Lib.cut s.data.toList sep.data.toList).1.toArray⟩,.string ⟨(Go.Lib.cut s.data.toList sep.data.toList).2.1.toArray⟩,.bool (Go.Lib.cut s.data.toList sep.data.toList).2.2])∧Below w.heap.size w w':=by
 obtain ⟨m,hm⟩:=hm;exact (Any.strings_Cut Tryz.lays145 s sep m w hs hm).mono fun _ _ ⟨he,n,hw⟩=>⟨he,by rw [hw];exact below_drewN (Below.refl _ _) n⟩
end Lb
end
section
open Go.RowKit NB
namespace Fmt
def wd (l:List UInt8):Bool:=l.all (wset.contains ·)
theorem wordB_mk (l:List UInt8):wordB ⟨l.toArray⟩=wd l:=by unfold wordB wd;rfl
def cutF (s:ByteArray):Int×ByteArray×ByteArray:=
 let c1:=Go.Lib.cut s.data.toList [37,115]
 let c2:=Go.Lib.cut s.data.toList [47]
 if s.toList=[37,122] then (3,⟨#[]⟩,⟨#[]⟩)
 else if c1.2.2=true∧wd c1.1=true∧wd c1.2.1=true then (2,⟨c1.1.toArray⟩,⟨c1.2.1.toArray⟩)
 else if c2.2.2=true∧c2.1≠[]∧c2.2.1≠[]∧wd c2.1=true∧wd c2.2.1=true then (4,⟨c2.1.toArray⟩,⟨c2.2.1.toArray⟩)
 else if s.toList≠[]∧wordB s=true then (1,s,⟨#[]⟩)
 else (0,⟨#[]⟩,⟨#[]⟩)
def checkE (s:ByteArray):Int:=if 16<s.size then 9 else if (cutF s).1=0 then 4 else 0
theorem cut_size (s sep:List UInt8):(Go.Lib.cut s sep).1.length≤s.length∧(Go.Lib.cut s sep).2.1.length≤s.length:=by
 unfold Go.Lib.cut
 split
 ·exact ⟨List.length_take_le' _ _,by simp⟩
 ·exact ⟨Nat.le_refl _,Nat.zero_le _⟩
theorem isE (l:List UInt8):(⟨l.toArray⟩:ByteArray).toList.isEmpty=decide (l=[]):=by
 rw [emp];cases l<;>simp
set_option maxHeartbeats 3200000 in
theorem cut (s:ByteArray) (hs:s.size<4294967281) (w:World) (ht:Tab w):Calls prog 215 #[.string s] w fun e w'=>e=.returned (.tuple #[.int .i64 (cutF s).1,.string (cutF s).2.1,.string (cutF s).2.2])∧Below w.heap.size w w':=by
 have hc1:=fun W (h:Tab W)=>Lb.Cut s ⟨#[37,115]⟩ W hs h;have hc2:=fun W (h:Tab W)=>Lb.Cut s ⟨#[47]⟩ W hs h;have z1:=cut_size s.data.toList [37,115];have z2:=cut_size s.data.toList [47];simp only [Array.length_toList] at z1 z2;have hsz:s.data.size=s.size:=rfl;unfold cutF;simp only at hc1 hc2 ⊢;generalize Go.Lib.cut s.data.toList [37,115]=c1 at *;generalize Go.Lib.cut s.data.toList [47]=c2 at *;obtain ⟨a1,b1,i1⟩:=c1;obtain ⟨a2,b2,i2⟩:=c2;simp only at hc1 hc2 z1 z2 ⊢;have wa1:=fun W=>word ⟨a1.toArray⟩ (by show a1.toArray.size≤_;simp;omega) W;have wb1:=fun W=>word ⟨b1.toArray⟩ (by show b1.toArray.size≤_;simp;omega) W;have wa2:=fun W=>word ⟨a2.toArray⟩ (by show a2.toArray.size≤_;simp;omega) W;have wb2:=fun W=>word ⟨b2.toArray⟩ (by show b2.toArray.size≤_;simp;omega) W;have ws:=fun W=>word s (by omega) W;rw [wordB_mk] at wa1 wb1 wa2 wb2;have ea:=isE a2;have eb:=isE b2;generalize wd a1=g1 at *;generalize wd b1=g2 at *;generalize wd a2=g3 at *;generalize wd b2=g4 at *;generalize wordB s=g5 at *;obtain ⟨A1,hA1⟩:∃ x,x=(⟨a1.toArray⟩:ByteArray):=⟨_,rfl⟩;obtain ⟨B1,hB1⟩:∃ x,x=(⟨b1.toArray⟩:ByteArray):=⟨_,rfl⟩;obtain ⟨A2,hA2⟩:∃ x,x=(⟨a2.toArray⟩:ByteArray):=⟨_,rfl⟩;obtain ⟨B2,hB2⟩:∃ x,x=(⟨b2.toArray⟩:ByteArray):=⟨_,rfl⟩;rw [← hA1] at hc1 wa1 ⊢;rw [← hB1] at hc1 wb1 ⊢;rw [← hA2] at hc2 wa2 ea ⊢;rw [← hB2] at hc2 wb2 eb ⊢;have Hc1:=kj hc1;have Hc2:=kj hc2;have Wa1:=kj wa1;have Wb1:=kj wb1;have Wa2:=kj wa2;have Wb2:=kj wb2;have Ws:=kj ws;have HT:=kj ht;obtain ⟨ne,hne⟩:∃ x:Bool,x=decide (s.toList=[]):=⟨_,rfl⟩;have es:s.toList.isEmpty=ne:=by rw [hne];cases h:s.toList<;>simp
 clear hc1 hc2 wa1 wb1 wa2 wb2 ws hA1 hB1 hA2 hB2 z1 z2 hsz ht
 by_cases hz:s.toList=[37,122]
 ·have e1:(s.toList==[37,122])=true:=by simp [hz]
  rw [if_pos hz];clear hz hne es;go_enter func215,ntmps215;go_wp2
  go_ret3
  exact ⟨rfl,bcq⟩
 have e1:(s.toList==[37,122])=false:=by simp [hz]
 rw [if_neg hz];have en:(s.toList≠[]↔ne=false):=by rw [hne];simp
 have ea':(a2≠[]↔¬A2.toList=[]):=by rw [← List.isEmpty_iff,ea];simp
 have eb':(b2≠[]↔¬B2.toList=[]):=by rw [← List.isEmpty_iff,eb];simp
 simp only [en,ea',eb'];clear hz hne en ea eb ea' eb';obtain ⟨pe,hpe⟩:∃ x:Int×ByteArray×ByteArray,x=(if i1=true∧g1=true∧g2=true then (2,A1,B1) else if i2=true∧¬A2.toList=[]∧¬B2.toList=[]∧g3=true∧g4=true then (4,A2,B2) else if ne=false∧g5=true then (1,s,⟨#[]⟩) else (0,⟨#[]⟩,⟨#[]⟩)):=⟨_,rfl⟩;rw [← hpe];have Hpe:=kj hpe;clear hpe;go_enter func215,ntmps215
 go_wp2_with (first
  |(go_at_call_of 270 (({ data:=#[37,115]}:ByteArray));refine (Hc1.out _ ?_).mono ?_;(· exact HT.out.later bcq);rintro e w1 ⟨rfl,hb1⟩)
  |(go_at_call_of 270 (({ data:=#[47]}:ByteArray));refine (Hc2.out _ ?_).mono ?_;(· exact HT.out.later bcq);rintro e w4 ⟨rfl,hb4⟩)
  |(with_reducible (go_at_call 271;(with_reducible refine (Wa1.out _).mono ?_);rintro e w2 ⟨rfl,hb2⟩;obtain ⟨hc2,hf2⟩:=bcell hb2))
  |(with_reducible (go_at_call 271;(with_reducible refine (Wb1.out _).mono ?_);rintro e w3 ⟨rfl,hb3⟩;obtain ⟨hc3,hf3⟩:=bcell hb3))
  |(with_reducible (go_at_call 271;(with_reducible refine (Wa2.out _).mono ?_);rintro e w5 ⟨rfl,hb5⟩;obtain ⟨hc5,hf5⟩:=bcell hb5))
  |(with_reducible (go_at_call 271;(with_reducible refine (Wb2.out _).mono ?_);rintro e w6 ⟨rfl,hb6⟩;obtain ⟨hc6,hf6⟩:=bcell hb6))
  |(with_reducible (go_at_call 271;(with_reducible refine (Ws.out _).mono ?_);rintro e w7 ⟨rfl,hb7⟩;obtain ⟨hc7,hf7⟩:=bcell hb7)))
 all_goals
  have hpe:=Hpe.out;simp only [*,if_true,if_false,true_and,and_true,false_and,and_false,Bool.false_eq_true,Bool.true_eq_false,eq_self,not_true_eq_false,not_false_eq_true] at hpe;clear Hpe
  first
   |(subst hpe;go_ret3;exact ⟨rfl,bcq⟩)
   |(cases g4
     ·(simp only [Bool.false_eq_true,if_false] at hpe;subst hpe;go_ret3;exact ⟨rfl,bcq⟩)
     ·(exfalso;rename_i h0 h1;clear hpe;first|(simp only [List.isEmpty_eq_false_iff,Bool.not_eq_false',List.isEmpty_iff, *,Bool.true_eq_false,or_false,or_self] at h0;done)|simp_all))
theorem Check (s:ByteArray) (hs:s.size≤9223372036854775807) (w:World) (ht:Tab w):Calls prog 155 #[.string s] w fun e w'=>e=.returned (.int .i64 (checkE s))∧Below w.heap.size w w':=by
 unfold checkE
 by_cases h:16<s.size
 ·rw [if_pos h];go_enter func155,ntmps155;go_wp2;go_ret;exact ⟨rfl,bcq⟩
 ·rw [if_neg h];have cc:=fun W (h':Tab W)=>cut s (by omega) W h';generalize cutF s=x at *;obtain ⟨k,a,b⟩:=x;simp only at cc ⊢;have Cc:=kj cc;have HT:=kj ht;clear cc ht
  by_cases hk:k=0
  ·rw [if_pos hk];go_enter func155,ntmps155
   go_wp2_with (go_at_call 215;(with_reducible refine (Cc.out _ ?_).mono ?_);(· exact HT.out.later bcq);rintro e w1 ⟨rfl,hb1⟩;obtain ⟨hc1,hf1⟩:=bcell hb1)
   go_ret;exact ⟨rfl,bcq⟩
  ·rw [if_neg hk];go_enter func155,ntmps155
   go_wp2_with (go_at_call 215;(with_reducible refine (Cc.out _ ?_).mono ?_);(· exact HT.out.later bcq);rintro e w1 ⟨rfl,hb1⟩;obtain ⟨hc1,hf1⟩:=bcell hb1)
   go_ret;exact ⟨rfl,bcq⟩
end Fmt
end
end Go.Proofs.YtgmfojgnjdpofaaGreatDoor
